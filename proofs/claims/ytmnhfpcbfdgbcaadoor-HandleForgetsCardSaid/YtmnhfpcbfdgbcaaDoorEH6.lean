/- Handles: the document's table, and what the program's table answers. -/
import Derived.Test.YtmnhfpcbfdgbcaaDoorEH3
import Derived.Test.YtmnhfpcbfdgbcaaDoorEX6
import Derived.Test.YtmnhfpcbfdgbcaaDoorEH5
namespace Go.Proofs.YtmnhfpcbfdgbcaaDoor.Eng.A
set_option linter.unusedVariables false
set_option linter.unusedSimpArgs false
open Go.RowKit Go.Proofs.YtmnhfpcbfdgbcaaDoor.Plain Go.Proofs.YtmnhfpcbfdgbcaaDoor.Eng Go.Proofs.YtmnhfpcbfdgbcaaDoor.Eng.Hb Go.Proofs.YtmnhfpcbfdgbcaaDoor.Eng.Hc Go.Proofs.YtmnhfpcbfdgbcaaDoor.Eng.Hd Go.Proofs.YtmnhfpcbfdgbcaaDoor.Eng.He Go.Proofs.YtmnhfpcbfdgbcaaDoor.Eng.Hf
abbrev IL := List (Itm × Bool)
abbrev tabOf (z : IL) : Tab := ⟨z.map (·.1), z.map (·.2)⟩
def live (z : IL) : List Itm := (z.filter (·.2)).map (·.1)
def whoF (w : Int) (l : List Itm) : List Itm := l.filter fun x => decide (x.Who = w)
theorem live_snoc (z : IL) (x : Itm × Bool) : live (z ++ [x]) = live z ++ if x.2 = true then [x.1] else [] := by
  unfold live
  rw [List.filter_append, List.map_append]
  obtain ⟨a, b⟩ := x
  cases b <;> rfl
theorem whoF_app (w : Int) (l m : List Itm) : whoF w (l ++ m) = whoF w l ++ whoF w m := List.filter_append ..
theorem live_len (z : IL) : (live z).length ≤ z.length := by unfold live; rw [List.length_map]; exact List.length_filter_le _ _
theorem whoF_len (w : Int) (l : List Itm) : (whoF w l).length ≤ l.length := List.length_filter_le _ _
theorem hof2_eq {z : IL} {fl : Nat} (hz : z.length ≤ 1000) (hf : z.length < fl) (w : Int) : F_hof2 fl (tabOf z) w = some (whoF w (live z)) := by
  unfold F_hof2
  have := lp_take (l := z) (fun d i => ((whoF w (live d), (i : Int)) : List Itm × Int)) (body := F_hof2_b0 (tabOf z) w) (fl := fl) (o := whoF w (live z)) (fun i x hx => by
    have hi := (List.getElem?_eq_some_iff.1 hx).1
    have h1 : (z.map (·.1))[i]? = some x.1 := by rw [List.getElem?_map, hx]; rfl
    have h2 : (z.map (·.2))[i]? = some x.2 := by rw [List.getElem?_map, hx]; rfl
    have hb : Below (i : Int) (z.map (·.1)).length := belo (by simpa using hi)
    unfold F_hof2_b0
    simp only [tabOf]
    rw [decide_eq_true (by simp; omega), ifb_1, ixb_n h2, grd_t (fun _ => hb), getD_n h1, wrapi (by omega) (by omega), live_snoc, whoF_app]
    cases hx2 : x.2 with
    | false => simp [whoF]
    | true =>
      by_cases hw : x.1.Who = w
      · have hl1 := whoF_len w (live (z.take i))
        have hl2 := live_len (z.take i)
        have hl3 := List.length_take_le i z
        rw [decide_eq_true hw, Bool.and_self, ifb_1, ixb_n h1, grd_t ⟨by simp; omega, by simp; omega⟩]
        simp [whoF, hw]
      · rw [decide_eq_false hw]; simp [whoF, hw]) (by
    unfold F_hof2_b0
    simp only [tabOf]
    rw [decide_eq_false (by simp), ifb_0]) hf
  rw [show (([] : List Itm), (0 : Int)) = (whoF w (live []), ((0 : Nat) : Int)) from rfl, this]
  rfl
def cntZ (w : Int) (z : IL) : Nat := (z.filter fun x => decide (x.1.Who = w)).length
theorem cntZ_le (w : Int) (z : IL) : cntZ w z ≤ z.length := List.length_filter_le _ _
theorem cntZ_snoc (w : Int) (z : IL) (x : Itm × Bool) : cntZ w (z ++ [x]) = cntZ w z + if x.1.Who = w then 1 else 0 := by
  unfold cntZ
  rw [List.filter_append, List.length_append]
  by_cases h : x.1.Who = w <;> simp [h]
theorem hgive2_eq {z : IL} {fl : Nat} (hz : z.length ≤ 1000) (hf : z.length < fl) (x : Itm) :
    F_hgive2 fl (tabOf z) x = some (if 7 < (whoF x.Who (live z)).length then (tabOf z, 0, 7) else (tabOf (z ++ [(⟨x.Who, (cntZ x.Who z : Int) + 1, x.Space, x.Gen, x.Txn⟩, true)]), (cntZ x.Who z : Int) + 1, 0)) := by
  unfold F_hgive2
  rw [hof2_eq hz hf, bnd_s]
  by_cases h7 : 7 < (whoF x.Who (live z)).length
  · rw [if_pos h7, decide_eq_true (by omega), ifb_1]
  · rw [if_neg h7, decide_eq_false (by omega), ifb_0]
    have := lp_take (l := z) (fun d i => (((i : Int), (cntZ x.Who d : Int) + 1) : Int × Int)) (body := F_hgive2_b0 (tabOf z) x) (fl := fl) (o := (cntZ x.Who z : Int) + 1) (fun i y hx => by
      have hi := (List.getElem?_eq_some_iff.1 hx).1
      have h1 : (z.map (·.1))[i]? = some y.1 := by rw [List.getElem?_map, hx]; rfl
      have hc := cntZ_le x.Who (z.take i)
      have hl3 := List.length_take_le i z
      unfold F_hgive2_b0
      simp only [tabOf]
      rw [decide_eq_true (by simp; omega), ifb_1, ixb_n h1, wrapi (by omega) (by omega), cntZ_snoc, wrap_u64 (by omega)]
      by_cases hw : y.1.Who = x.Who
      · rw [decide_eq_true hw, ifb_1, bnd_s, if_pos hw]; simp
      · rw [decide_eq_false hw, ifb_0, bnd_s, if_neg hw]; simp) (by
      unfold F_hgive2_b0
      simp only [tabOf]
      rw [decide_eq_false (by simp), ifb_0]) hf
    rw [show ((0 : Int), (1 : Int)) = (((0 : Nat) : Int), (cntZ x.Who [] : Int) + 1) from rfl, this, bnd_s]
    rw [grd_t ⟨by simp [tabOf]; omega, by simp [tabOf]; omega⟩, grd_t ⟨by simp [tabOf]; omega, by simp [tabOf]; omega⟩, grd_t ⟨by simp [tabOf]; omega, by simp [tabOf]; omega⟩, grd_t ⟨by simp [tabOf]; omega, by simp [tabOf]; omega⟩]
    simp [tabOf]
theorem hget2_eq {z : IL} {fl : Nat} (hz : z.length ≤ 1000) (hf : z.length < fl) (w no : Int) :
    F_hget2 fl (tabOf z) w no = some (match (whoF w (live z)).find? fun x => decide (x.No = no) with | some x => (x, 0) | none => (i0, 11)) := by
  unfold F_hget2
  rw [hof2_eq hz hf, bnd_s]
  have hl1 := whoF_len w (live z)
  have hl2 := live_len z
  generalize whoF w (live z) = l at hl1 ⊢
  cases hfi : l.find? (fun x => decide (x.No = no)) with
  | none =>
    have hn := List.find?_eq_none.1 hfi
    rw [show (0 : Int) = ((0 : Nat) : Int) from rfl, lp_none (l := l) (body := F_hget2_b0 no l) (fun i => ((i : Nat) : Int)) (fun x => decide (x.No = no)) (List.any_eq_false.2 fun x hx => by simpa using hn x hx) (fun i x hx hp => by
      have hi := (List.getElem?_eq_some_iff.1 hx).1
      unfold F_hget2_b0
      rw [decide_eq_true (by omega), ifb_1, ixb_n hx, hp, ifb_0, wrapi (by omega) (by omega)]; rfl) (e := .inr ()) (by
      unfold F_hget2_b0
      rw [decide_eq_false (by omega), ifb_0]) (by omega)]
    rfl
  | some y =>
    obtain ⟨h1, i, hi, h2, h3⟩ := List.find?_eq_some_iff_getElem.1 hfi
    have := lp_seq (fun i => ((i : Nat) : Int)) (n := i) (body := F_hget2_b0 no l) (o := .inl (y, 0)) (fl := fl) (fun j hj => by
      have hjl : j < l.length := by omega
      unfold F_hget2_b0
      rw [decide_eq_true (by omega), ifb_1, ixb_n (List.getElem?_eq_getElem hjl), show decide (l[j].No = no) = false from by simpa using h3 j hj, ifb_0, wrapi (by omega) (by omega)]; rfl) (by
      unfold F_hget2_b0
      rw [decide_eq_true (by omega), ifb_1, ixb_n (List.getElem?_eq_getElem hi), h2, h1, ifb_1, ixb_n (List.getElem?_eq_getElem hi), h2]) (by omega)
    rw [show (0 : Int) = ((0 : Nat) : Int) from rfl, this]
    rfl
def dropZ (sp : Bool) (a no : Int) (z : IL) : IL := z.map fun x => (x.1, x.2 && !((sp && decide (x.1.Space = a)) || ((!sp && decide (x.1.Who = a)) && decide (x.1.No = no))))
theorem hdrop2_eq {z : IL} {fl : Nat} (hz : z.length ≤ 1000) (hf : z.length < fl) (sp : Bool) (a no : Int) : F_hdrop2 fl (tabOf z) sp a no = some (tabOf (dropZ sp a no z)) := by
  unfold F_hdrop2
  have := lp_take (l := z) (fun d i => (((dropZ sp a no d).map (·.2), (i : Int)) : List Bool × Int)) (body := F_hdrop2_b0 (tabOf z) sp a no) (fl := fl) (o := (dropZ sp a no z).map (·.2)) (fun i x hx => by
    have hi := (List.getElem?_eq_some_iff.1 hx).1
    have h1 : (z.map (·.1))[i]? = some x.1 := by rw [List.getElem?_map, hx]; rfl
    have h2 : (z.map (·.2))[i]? = some x.2 := by rw [List.getElem?_map, hx]; rfl
    have hl3 := List.length_take_le i z
    unfold F_hdrop2_b0
    simp only [tabOf]
    rw [decide_eq_true (by simp; omega), ifb_1, ixb_n h1, ixb_n h2, wrapi (by omega) (by omega), grd_t ⟨by simp [dropZ]; omega, by simp [dropZ]; omega⟩]
    simp [dropZ]) (by
    unfold F_hdrop2_b0
    simp only [tabOf]
    rw [decide_eq_false (by simp), ifb_0]) hf
  rw [show (([] : List Bool), (0 : Int)) = ((dropZ sp a no []).map (·.2), ((0 : Nat) : Int)) from rfl, this, bnd_s]
  simp [tabOf, dropZ]
theorem hitems_eq {l m : List Itm} {fl : Nat} (hl : l.length ≤ 1000) (hf : l.length < fl) : F_hitems fl l m = some (decide (l = m)) := by
  unfold F_hitems
  by_cases hlm : l.length = m.length
  · rw [decide_eq_false (by omega), ifb_0]
    have := lp_cmp (l := l) (m := m) (body := F_hitems_b0 l m) (fl := fl) (fun x y => (decide (x.Who = y.Who) && (decide (x.No = y.No) && (decide (x.Space = y.Space) && (decide (x.Gen = y.Gen) && (decide (x.Txn = y.Txn) && true)))))) (fun a b => by
      obtain ⟨a1, a2, a3, a4, a5⟩ := a
      obtain ⟨b1, b2, b3, b4, b5⟩ := b
      simp) hlm (fun t => by unfold F_hitems_b0; rw [hlm]) (by omega) hf
    rw [this]
    by_cases h : l = m
    · simp [h, bnd]
    · simp [h, bnd]
  · rw [decide_eq_true (by omega), ifb_1, decide_eq_false (fun h : l = m => hlm (h ▸ rfl))]
end Go.Proofs.YtmnhfpcbfdgbcaaDoor.Eng.A

/- Handles: what the program's table answers. -/
namespace Go.Proofs.YtmnhfpcbfdgbcaaDoor.Eng.A
set_option linter.unusedVariables false
set_option linter.unusedSimpArgs false
open Go.RowKit Go.Proofs.YtmnhfpcbfdgbcaaDoor.Plain Go.Proofs.YtmnhfpcbfdgbcaaDoor.Eng Go.Proofs.YtmnhfpcbfdgbcaaDoor.Eng.A Go.Proofs.YtmnhfpcbfdgbcaaDoor.Eng.Hb Go.Proofs.YtmnhfpcbfdgbcaaDoor.Eng.Hc Go.Proofs.YtmnhfpcbfdgbcaaDoor.Eng.Hd Go.Proofs.YtmnhfpcbfdgbcaaDoor.Eng.He Go.Proofs.YtmnhfpcbfdgbcaaDoor.Eng.Hf Go.Proofs.YtmnhfpcbfdgbcaaDoor.Eng.Er
abbrev NL := List (Int × Int)
def cn (N : NL) (w : Int) : Int := (mget N w).getD 0
structure TOk (H : HL) (N : NL) (n : Nat) : Prop where
  ok : OkH H
  num : ∀ e ∈ H, 1 ≤ e.2.No ∧ e.2.No ≤ cn N e.2.Who
  eight : ∀ w, (ofL H w).length ≤ 8
  len : H.length ≤ n
  cnt : ∀ w, 0 ≤ cn N w ∧ cn N w ≤ n
theorem TOk.up {H : HL} {N : NL} {n m : Nat} (h : TOk H N n) (hm : n ≤ m) : TOk H N m := ⟨h.ok, h.num, h.eight, by have := h.len; omega, fun w => by have := h.cnt w; omega⟩
theorem tok0 : TOk [] [] 0 := ⟨⟨.nil, fun e h => nomatch h⟩, (fun e h => nomatch h), (fun w => by simp [ofL]), Nat.le_refl _, fun w => ⟨Int.le_refl _, Int.le_refl _⟩⟩
theorem ofL_in {H : HL} (hk : OkH H) {w : Int} {x : Itm} : x ∈ ofL H w ↔ x.Who = w ∧ ((w, x.No), x) ∈ H := by
  constructor
  · intro h
    obtain ⟨e, he, h1, rfl⟩ := ofL_mem h
    have h2 := hk.2 e he
    rw [h2] at h1
    exact ⟨h1, by rw [← h1, ← h2]; exact he⟩
  · rintro ⟨h1, h2⟩
    unfold ofL
    exact List.mem_map.2 ⟨_, List.mem_filter.2 ⟨h2, by simp⟩, rfl⟩
theorem mget_of {H : HL} (hk : OkH H) {w no : Int} {x : Itm} : mget H (w, no) = some x ↔ x ∈ ofL H w ∧ x.No = no := by
  rw [mget_mem hk.1, ofL_in hk]
  constructor
  · intro h
    have := hk.2 _ h
    simp at this
    obtain ⟨rfl, rfl⟩ := this
    exact ⟨⟨rfl, h⟩, rfl⟩
  · rintro ⟨⟨_, h⟩, rfl⟩
    exact h
theorem mget_ofn {H : HL} (hk : OkH H) {w no : Int} : mget H (w, no) = none ↔ ∀ x ∈ ofL H w, x.No ≠ no := by
  cases h : mget H (w, no) with
  | some x =>
    obtain ⟨h1, h2⟩ := (mget_of hk).1 h
    exact ⟨fun q => (nomatch q), fun q => absurd h2 (q x h1)⟩
  | none => exact ⟨fun _ x hx hn => by rw [(mget_of hk).2 ⟨hx, hn⟩] at h; exact (nomatch h), fun _ => rfl⟩
theorem ofS_perm (H : HL) (w : Int) : (ofS H w).Perm (ofL H w) := srt_perm (ofL H w) []
theorem ofS_up (H : HL) (w : Int) : UpI (ofS H w) := srt_up _ [] .nil
theorem ofS_eq {H : HL} (hk : OkH H) {w : Int} {l : List Itm} (hu : UpI l) (hp : l.Perm (ofL H w)) : ofS H w = l :=
  List.Perm.eq_of_pairwise (le := fun a b => a.No ≤ b.No) (fun a b ha hb h1 h2 => ofL_inj hk ((ofS_perm H w).subset ha) (hp.subset hb) (by omega)) (ofS_up H w) hu ((ofS_perm H w).trans hp.symm)
theorem tof_eq {H : HL} {N : NL} {n fl : Nat} (h : TOk H N n) (hn : n ≤ 1000) (hf : 12 < fl) (w : Int) : F_tof fl H w = some (ofS H w) := by
  unfold F_tof
  have h1 := h.eight w
  have h2 := h.len
  rw [grd_t ⟨h.ok, by omega, by omega, hf⟩]
def nw (x : Itm) (c : Int) : Itm := ⟨x.Who, c, x.Space, x.Gen, x.Txn⟩
theorem tgive_eq {H : HL} {N : NL} {n fl : Nat} (h : TOk H N n) (hn : n ≤ 1000) (hf : 12 < fl) (x : Itm) :
    (8 ≤ (ofL H x.Who).length ∧ F_tgive fl ⟨H, N⟩ x = some (0, some 7, ⟨H, N⟩)) ∨
    ((ofL H x.Who).length < 8 ∧ F_tgive fl ⟨H, N⟩ x = some (cn N x.Who + 1, none, ⟨H ++ [((x.Who, cn N x.Who + 1), nw x (cn N x.Who + 1))], mset N x.Who (cn N x.Who + 1)⟩) ∧ TOk (H ++ [((x.Who, cn N x.Who + 1), nw x (cn N x.Who + 1))]) (mset N x.Who (cn N x.Who + 1)) (n + 1)) := by
  have hl : (ofS H x.Who).length = (ofL H x.Who).length := (ofS_perm H x.Who).length_eq
  have hc := h.cnt x.Who
  have hnx : nxt N x.Who = cn N x.Who + 1 := wrap_u64 (by show 0 ≤ cn N x.Who + 1 ∧ cn N x.Who + 1 < 18446744073709551616; omega)
  unfold F_tgive
  rw [tof_eq h hn hf, bnd_s]
  unfold hgive
  by_cases h8 : 8 ≤ (ofL H x.Who).length
  · exact .inl ⟨h8, by rw [if_pos (by omega)]⟩
  · refine .inr ⟨by omega, ?_⟩
    have hnew : mget H (x.Who, cn N x.Who + 1) = none := (mget_ofn h.ok).2 fun y hy => by
      obtain ⟨q1, q2⟩ := (ofL_in h.ok).1 hy
      have := (h.num _ q2).2
      simp only at this
      rw [q1] at this
      omega
    have hcn : ∀ w, cn (mset N x.Who (cn N x.Who + 1)) w = if x.Who = w then cn N x.Who + 1 else cn N w := fun w => by
      conv => lhs; unfold cn
      rw [mget_set]
      by_cases hw : x.Who = w
      · rw [if_pos hw, if_pos hw]; rfl
      · rw [if_neg hw, if_neg hw]; rfl
    refine ⟨by rw [if_neg (by omega), hnx, mset_new hnew]; rfl, ⟨⟨?_, ?_⟩, ?_, ?_, ?_, ?_⟩⟩
    · rw [← mset_new hnew]; exact mset_nodup h.ok.1 _ _
    · intro e he
      rcases List.mem_append.1 he with he | he
      · exact h.ok.2 e he
      · simp at he; subst he; rfl
    · intro e he
      rw [hcn]
      rcases List.mem_append.1 he with he | he
      · have := h.num e he
        split
        · next hw => rw [hw]; omega
        · exact this
      · simp at he; subst he; simp [nw]; omega
    · intro w
      have := h.eight w
      by_cases hw : x.Who = w
      · rw [ofL_y (by exact hw), List.length_append]; subst hw; simp; omega
      · rw [ofL_n (by exact hw)]; exact this
    · have := h.len; simp; omega
    · intro w
      have := h.cnt w
      rw [hcn]
      split <;> omega
theorem ofL_filter {H : HL} (hk : OkH H) {w : Int} {p : (Int × Int) × Itm → Bool} {q : Itm → Bool} (hpq : ∀ x, x.Who = w → p ((w, x.No), x) = q x) : ofL (H.filter p) w = (ofL H w).filter q := by
  unfold ofL
  rw [List.filter_filter, List.filter_map, List.filter_filter]
  congr 1
  refine List.filter_congr fun e he => ?_
  have h1 := hk.2 e he
  by_cases hw : e.1.1 = w
  · rw [decide_eq_true hw, Bool.true_and, Bool.and_true]
    have hw' : e.2.Who = w := by rw [h1] at hw; exact hw
    have := hpq e.2 hw'
    rw [← hw', ← h1] at this
    rw [this]; rfl
  · rw [decide_eq_false hw]; simp
theorem TOk.filter {H : HL} {N : NL} {n : Nat} (h : TOk H N n) (p : (Int × Int) × Itm → Bool) : TOk (H.filter p) N n :=
  ⟨⟨filter_nodup h.ok.1 p, fun e he => h.ok.2 e (List.mem_filter.1 he).1⟩, fun e he => h.num e (List.mem_filter.1 he).1, fun w => by
    have := h.eight w
    have h2 : (ofL (H.filter p) w).length ≤ (ofL H w).length := by
      unfold ofL
      rw [List.length_map, List.length_map]
      exact (List.Sublist.filter _ List.filter_sublist).length_le
    omega, by have := List.length_filter_le p H; have := h.len; omega, h.cnt⟩
/-- Behind a drop. -/
def dropH (H : HL) (w no : Int) : HL := H.filter fun e => decide (¬ e.1 = (w, no))
theorem tdrop_eq {H : HL} {N : NL} {n : Nat} (h : TOk H N n) (w no : Int) : F_tdrop H w no = some (if (mget H (w, no)).isSome = true then none else some 11, dropH H w no) := by
  unfold F_tdrop hget dropH
  rw [mdel_filter h.ok.1]
theorem tforget_eq {H : HL} {N : NL} {n : Nat} (h : TOk H N n) (sp : Int) : F_tforget H sp = some (H.filter fun z => decide (¬ z.2.Space = sp)) := by
  unfold F_tforget
  rw [grd_t h.ok]
theorem ofL_drop {H : HL} (hk : OkH H) (w no v : Int) : ofL (dropH H w no) v = (ofL H v).filter fun x => !(decide (v = w) && decide (x.No = no)) :=
  ofL_filter hk fun x hx => by
    by_cases h1 : v = w <;> by_cases h2 : x.No = no <;> simp [h1, h2]
theorem ofL_forget {H : HL} (hk : OkH H) (sp v : Int) : ofL (H.filter fun z => decide (¬ z.2.Space = sp)) v = (ofL H v).filter fun x => decide (¬ x.Space = sp) :=
  ofL_filter hk fun x hx => rfl
theorem numG_eq (o : Option Int) : tNumG o = some (numV o) := rfl
theorem sure34_eq {fl : Nat} (hf : 12 < fl) : F_sure34 fl = some true := by
  have hk : ∀ H : HL, ∀ w, (OkH H ∧ H.length ≤ 1000000 ∧ (ofL H w).length ≤ 12 ∧ 12 < fl) ↔ (OkH H ∧ H.length ≤ 1000000 ∧ (ofL H w).length ≤ 12) := fun H w => ⟨fun h => ⟨h.1, h.2.1, h.2.2.1⟩, fun h => ⟨h.1, h.2.1, h.2.2, hf⟩⟩
  have ht : ∀ H : HL, ∀ w, F_tof fl H w = F_tof 13 H w := fun H w => by
    unfold F_tof grd
    by_cases h : OkH H ∧ H.length ≤ 1000000 ∧ (ofL H w).length ≤ 12
    · rw [if_pos ((hk H w).2 h), if_pos ⟨h.1, h.2.1, h.2.2, by decide⟩]
    · rw [if_neg fun q => h ((hk H w).1 q), if_neg fun q => h ⟨q.1, q.2.1, q.2.2.1⟩]
  have hg : ∀ t x, F_tgive fl t x = F_tgive 13 t x := fun t x => by unfold F_tgive; rw [ht]
  have : F_sure34 fl = F_sure34 13 := by unfold F_sure34; simp only [ht, hg]
  rw [this]
  decide +kernel
end Go.Proofs.YtmnhfpcbfdgbcaaDoor.Eng.A

/- Handles: the first law in plain Lean. -/
namespace Go.Proofs.YtmnhfpcbfdgbcaaDoor.Eng.A
set_option linter.unusedVariables false
set_option linter.unusedSimpArgs false
open Go.RowKit Go.Proofs.YtmnhfpcbfdgbcaaDoor.Plain Go.Proofs.YtmnhfpcbfdgbcaaDoor.Eng Go.Proofs.YtmnhfpcbfdgbcaaDoor.Eng.Hb Go.Proofs.YtmnhfpcbfdgbcaaDoor.Eng.Hc Go.Proofs.YtmnhfpcbfdgbcaaDoor.Eng.Hd Go.Proofs.YtmnhfpcbfdgbcaaDoor.Eng.He Go.Proofs.YtmnhfpcbfdgbcaaDoor.Eng.Hf Go.Proofs.YtmnhfpcbfdgbcaaDoor.Eng.Er
/-- The program's table and the document's. -/
structure Rel (H : HL) (N : NL) (z : IL) (n : Nat) : Prop where
  tok : TOk H N n
  len : z.length ≤ n
  same : ∀ w, (ofL H w).Perm (whoF w (live z))
  cnt : ∀ w, cn N w = (cntZ w z : Int)
  up : ∀ w, UpI (whoF w (live z))
  le : ∀ w, ∀ x ∈ whoF w (live z), x.No ≤ cntZ w z
theorem Rel.of {H : HL} {N : NL} {z : IL} {n : Nat} (h : Rel H N z n) (w : Int) : ofS H w = whoF w (live z) := ofS_eq h.tok.ok (h.up w) (h.same w).symm
theorem rel0 : Rel [] [] [] 0 := ⟨tok0, Nat.le_refl _, fun w => .refl _, fun w => rfl, fun w => .nil, fun w x hx => nomatch hx⟩
theorem Rel.up' {H : HL} {N : NL} {z : IL} {n m : Nat} (h : Rel H N z n) (hm : n ≤ m) : Rel H N z m := ⟨h.tok.up hm, by have := h.len; omega, h.same, h.cnt, h.up, h.le⟩
theorem Rel.give {H : HL} {N : NL} {z : IL} {n fl : Nat} (h : Rel H N z n) (hn : n ≤ 900) (hf : 1000 < fl) (x : Itm) :
    ∃ H' N' z' m e d, F_tgive fl ⟨H, N⟩ x = some (m, e, ⟨H', N'⟩) ∧ F_hgive2 fl (tabOf z) x = some (tabOf z', m, d) ∧ numV e = d ∧ Rel H' N' z' (n + 1) := by
  have hl := h.len
  have hlen : (ofL H x.Who).length = (whoF x.Who (live z)).length := (h.same x.Who).length_eq
  rw [hgive2_eq (by omega) (by omega)]
  rcases tgive_eq h.tok (by omega) (show 12 < fl by omega) x with ⟨h8, hg⟩ | ⟨h8, hg, ht⟩
  · exact ⟨H, N, z, 0, _, 7, hg, by rw [if_pos (by omega)], rfl, h.up' (by omega)⟩
  · rw [h.cnt] at hg ht
    refine ⟨_, _, z ++ [(nw x ((cntZ x.Who z : Int) + 1), true)], _, _, _, hg, by rw [if_neg (by omega)]; rfl, rfl, ht, by simp; omega, fun w => ?_, fun w => ?_, fun w => ?_, fun w y hy => ?_⟩
    · rw [live_snoc, whoF_app]
      by_cases hw : x.Who = w
      · rw [ofL_y (by exact hw)]
        refine (h.same w).append ?_
        simp [whoF, nw, hw]
      · rw [ofL_n (by exact hw)]
        refine (h.same w).trans ?_
        simp [whoF, nw, hw]
    · rw [cntZ_snoc]
      conv => lhs; unfold cn
      rw [mget_set]
      have := h.cnt w
      unfold cn at this
      by_cases hw : x.Who = w
      · subst hw; simp [nw]
      · rw [if_neg hw, this]; simp [nw, hw]
    · rw [live_snoc, whoF_app]
      refine List.pairwise_append.2 ⟨h.up w, ?_, fun a ha b hb => ?_⟩
      · simp only [if_true, whoF]; exact List.Pairwise.sublist List.filter_sublist (by simp)
      · have := h.le w a ha
        simp [whoF, nw] at hb
        obtain ⟨rfl, rfl⟩ := hb
        have this' : a.No ≤ (cntZ x.Who z : Int) := this
        show a.No ≤ (cntZ x.Who z : Int) + 1
        omega
    · rw [cntZ_snoc]
      rw [live_snoc, whoF_app] at hy
      rcases List.mem_append.1 hy with hy | hy
      · have := h.le w y hy; omega
      · simp [whoF, nw] at hy
        obtain ⟨rfl, rfl⟩ := hy
        simp [nw]
theorem Rel.get {H : HL} {N : NL} {z : IL} {n fl : Nat} (h : Rel H N z n) (hn : n ≤ 900) (hf : 1000 < fl) (w no : Int) :
    F_hget2 fl (tabOf z) w no = some ((hget H w no).1, numV (hget H w no).2) := by
  have hl := h.len
  rw [hget2_eq (by omega) (by omega)]
  unfold hget
  cases hg : mget H (w, no) with
  | none =>
    have h1 := (mget_ofn h.tok.ok).1 hg
    rw [List.find?_eq_none.2 fun x hx => by simpa using h1 x ((h.same w).symm.subset hx)]
    rfl
  | some x =>
    obtain ⟨h1, h2⟩ := (mget_of h.tok.ok).1 hg
    cases hf : (whoF w (live z)).find? fun x => decide (x.No = no) with
    | none => exact absurd h2 (by simpa using List.find?_eq_none.1 hf x ((h.same w).subset h1))
    | some y =>
      have h3 := List.find?_some hf
      have h4 := List.mem_of_find?_eq_some hf
      have h3' : y.No = no := of_decide_eq_true h3
      rw [ofL_inj h.tok.ok h1 ((h.same w).symm.subset h4) (h2.trans h3'.symm)]
      rfl
theorem live_drop (sp : Bool) (a no : Int) (z : IL) : live (dropZ sp a no z) = (live z).filter fun x => !((sp && decide (x.Space = a)) || ((!sp && decide (x.Who = a)) && decide (x.No = no))) := by
  unfold live dropZ
  induction z with
  | nil => rfl
  | cons x z ih =>
    obtain ⟨x, b⟩ := x
    rw [List.map_cons, List.filter_cons, List.filter_cons]
    cases b with
    | false => simpa using ih
    | true =>
      simp only [Bool.true_and, if_true, List.map_cons, List.filter_cons]
      split
      · next hc => rw [List.map_cons, ih]
      · next hc => exact ih
theorem cntZ_drop (w : Int) (sp : Bool) (a no : Int) (z : IL) : cntZ w (dropZ sp a no z) = cntZ w z := by
  unfold cntZ dropZ
  rw [List.filter_map, List.length_map]
  rfl
theorem whoF_filter (w : Int) (p : Itm → Bool) (l : List Itm) : whoF w (l.filter p) = (whoF w l).filter p := by
  unfold whoF; rw [List.filter_filter, List.filter_filter]; congr 1; funext x; exact Bool.and_comm _ _
theorem Rel.less {H : HL} {N : NL} {z : IL} {n : Nat} (h : Rel H N z n) (sp : Bool) (a no : Int) (p : (Int × Int) × Itm → Bool) (hp : ∀ v, ofL (H.filter p) v = (ofL H v).filter fun x => !((sp && decide (x.Space = a)) || ((!sp && decide (x.Who = a)) && decide (x.No = no)))) : Rel (H.filter p) N (dropZ sp a no z) n :=
  ⟨h.tok.filter p, by have := h.len; simpa [dropZ] using this, fun w => by rw [hp, live_drop, whoF_filter]; exact (h.same w).filter _, fun w => by rw [cntZ_drop]; exact h.cnt w,
   fun w => by rw [live_drop, whoF_filter]; exact (h.up w).sublist List.filter_sublist, fun w x hx => by rw [live_drop, whoF_filter] at hx; rw [cntZ_drop]; exact h.le w x (List.mem_filter.1 hx).1⟩
theorem Rel.drop {H : HL} {N : NL} {z : IL} {n : Nat} (h : Rel H N z n) (w no : Int) : Rel (dropH H w no) N (dropZ false w no z) n :=
  h.less false w no _ fun v => (ofL_drop h.tok.ok w no v).trans (List.filter_congr fun x hx => by
    have := ((ofL_in h.tok.ok).1 hx).1
    subst this
    simp)
theorem Rel.forget {H : HL} {N : NL} {z : IL} {n : Nat} (h : Rel H N z n) (sp : Int) : Rel (H.filter fun z => decide (¬ z.2.Space = sp)) N (dropZ true sp 0 z) n :=
  h.less true sp 0 _ fun v => (ofL_forget h.tok.ok sp v).trans (List.filter_congr fun x hx => by simp)
def qI (x y : Itm) : Bool := (decide (x.Who = y.Who) && (decide (x.No = y.No) && (decide (x.Space = y.Space) && (decide (x.Gen = y.Gen) && (decide (x.Txn = y.Txn) && true)))))
theorem qI_self (x : Itm) : qI x x = true := by simp [qI]
theorem hRuns_body {fl : Nat} {p0 : List HAct} {H : HL} {N : NL} {z : IL} {i : Nat} (hf : 1000 < fl) (h : Rel H N z i) (hi : i < p0.length) (h60 : i < 60) :
    ∃ H' N' z', F_hRuns_b0 fl p0 ((i : Int), H, N, tabOf z) = some (.inl (((i + 1 : Nat) : Int), H', N', tabOf z')) ∧ Rel H' N' z' (i + 1) := by
  have hx := List.getElem?_eq_getElem hi
  generalize p0[i] = a at hx
  have fin : ∀ {H' : HL} {N' : NL} {z' : IL}, Rel H' N' z' (i + 1) → (bnd (F_tof fl H' a.X.Who) fun x_27 => bnd (F_hof2 fl (tabOf z') a.X.Who) fun x_28 => bnd (F_hitems fl x_27 x_28) fun x_29 => ifb (!x_29) (some (.inr (.inl false))) (some (.inl (IntKind.i64.wrap ((i : Int) + 1), H', N', tabOf z')))) = (some (.inl (((i + 1 : Nat) : Int), H', N', tabOf z')) : Option ((Int × HL × NL × Tab) ⊕ (Bool ⊕ (HL × NL × Tab)))) := fun h' => by
    have hl := h'.len
    have h1 := whoF_len a.X.Who (live ‹IL›)
    have h2 := live_len ‹IL›
    rw [tof_eq h'.tok (by omega) (by omega), bnd_s, hof2_eq (by omega) (by omega), bnd_s, h'.of, hitems_eq (by omega) (by omega), decide_eq_true rfl, bnd_s, wrapi (by omega) (by omega)]
    rfl
  unfold F_hRuns_b0
  simp only
  rw [show (decide ((i : Int) < (p0.length : Int)) && decide ((i : Int) < 60)) = true from by simp; omega, ifb_1, ixb_n hx, ixb_n hx]
  by_cases k2 : a.Kind = 2
  · refine ⟨H, N, z, ?_, h.up' (by omega)⟩
    rw [decide_eq_true k2, ifb_1, show F_tget H a.X.Who a.X.No = some (hget H a.X.Who a.X.No) from rfl, bnd_s, h.get (by omega) hf, bnd_s]
    simp only [eq_self, decide_true, Bool.and_self, Bool.not_true, beq_self_eq_true, gif_1, numG_eq, bnd_s, Bool.false_or, ne_eq, not_true_eq_false, decide_false, ifb_0, ocs_2]
    exact fin (h.up' (by omega))
  · rw [decide_eq_false k2, ifb_0]
    by_cases k3 : a.Kind = 3
    · refine ⟨_, _, _, ?_, (h.drop a.X.Who a.X.No).up' (show i ≤ i + 1 by omega)⟩
      have hl := h.len
      rw [decide_eq_true k3, ifb_1, h.get (by omega) hf, bnd_s, tdrop_eq h.tok, bnd_s, numG_eq, bnd_s]
      simp only
      rw [show (hget H a.X.Who a.X.No).2 = (if (mget H (a.X.Who, a.X.No)).isSome = true then none else some 11) from rfl, decide_eq_false (by simp), ifb_0, hdrop2_eq (by omega) (by omega), bnd_s, bnd_s, ocs_2]
      exact fin ((h.drop a.X.Who a.X.No).up' (by omega))
    · rw [decide_eq_false k3, ifb_0]
      by_cases k4 : a.Kind = 4
      · refine ⟨_, _, _, ?_, (h.forget a.X.Space).up' (show i ≤ i + 1 by omega)⟩
        have hl := h.len
        rw [decide_eq_true k4, ifb_1, tforget_eq h.tok, bnd_s, hdrop2_eq (by omega) (by omega), bnd_s, bnd_s, ocs_2]
        exact fin ((h.forget a.X.Space).up' (by omega))
      · obtain ⟨H', N', z', m, e, d, h1, h2, rfl, h4⟩ := h.give (by omega) hf a.X
        refine ⟨H', N', z', ?_, h4⟩
        rw [decide_eq_false k4, ifb_0, h1, bnd_s, h2, bnd_s]
        simp only
        rw [show decide (m ≠ m) = false from by simp, show ((false == false : Bool)) = true from rfl, gif_1, numG_eq, bnd_s, show decide (numV e ≠ numV e) = false from by simp]
        rw [show (false || false) = false from rfl, ifb_0, bnd_s, ocs_2]
        exact fin h4
theorem hRuns_eq {fl : Nat} {p0 : List HAct} (hf : 1000 < fl) : F_hRuns fl p0 = some true := by
  unfold F_hRuns
  simp only [F_nForget, F_nGive, F_nGet, F_nDrop, F_nOf, numG_eq, bnd_s, numV]
  have hl : ∃ o, lp (F_hRuns_b0 fl p0) fl ((0 : Int), ([] : HL), ([] : NL), tabOf []) = some o ∧ ∃ v, o = .inr v := by
    have := lp_inv (S := HL × NL × IL) (body := F_hRuns_b0 fl p0) (fun i s => ((i : Int), s.1, s.2.1, tabOf s.2.2)) (fun i s => Rel s.1 s.2.1 s.2.2 i) (fun o => ∃ v, o = .inr v) (n := min p0.length 60) (fl := fl) (s0 := ([], [], [])) rel0
      (fun i s hi hI => .inl (by
        obtain ⟨H', N', z', h1, h2⟩ := hRuns_body (p0 := p0) hf hI (by omega) (by omega)
        exact ⟨(H', N', z'), h1, h2⟩))
      (fun s hI => ⟨_, by
        unfold F_hRuns_b0
        simp only
        rw [show (decide (((min p0.length 60 : Nat) : Int) < (p0.length : Int)) && decide (((min p0.length 60 : Nat) : Int) < 60)) = false from by simp; omega, ifb_0], _, rfl⟩) (by omega)
    exact this
  obtain ⟨o, h1, v, rfl⟩ := hl
  simp only [tabOf] at h1
  simp only [List.map_nil] at h1
  simp [h1, sure34_eq (show 12 < fl by omega), bnd, ocs, grd, gif, ifb]
end Go.Proofs.YtmnhfpcbfdgbcaaDoor.Eng.A

/- Handles: the second law in plain Lean. -/
namespace Go.Proofs.YtmnhfpcbfdgbcaaDoor.Eng.A
set_option linter.unusedVariables false
set_option linter.unusedSimpArgs false
open Go.RowKit Go.Proofs.YtmnhfpcbfdgbcaaDoor.Plain Go.Proofs.YtmnhfpcbfdgbcaaDoor.Eng Go.Proofs.YtmnhfpcbfdgbcaaDoor.Eng.Hb Go.Proofs.YtmnhfpcbfdgbcaaDoor.Eng.Hc Go.Proofs.YtmnhfpcbfdgbcaaDoor.Eng.Hd Go.Proofs.YtmnhfpcbfdgbcaaDoor.Eng.He Go.Proofs.YtmnhfpcbfdgbcaaDoor.Eng.Hf Go.Proofs.YtmnhfpcbfdgbcaaDoor.Eng.Er
structure AI (i : Nat) (S : List Int) (H : HL) (N : NL) (H' : HL) (N' : NL) : Prop where
  a : TOk H N i
  b : TOk H' N' i
  same : (ofL H 1).Perm (ofL H' 1)
  cnt : cn N 1 = cn N' 1
  seen : ∀ k ∈ S, k ≤ cn N 1
  len : S.length ≤ i
theorem AI.get {i : Nat} {S : List Int} {H : HL} {N : NL} {H' : HL} {N' : NL} (h : AI i S H N H' N') (no : Int) : (mget H (1, no)).isSome = (mget H' (1, no)).isSome := by
  cases hg : mget H (1, no) with
  | none =>
    rw [(mget_ofn h.b.ok).2 fun x hx => (mget_ofn h.a.ok).1 hg x (h.same.symm.subset hx)]
  | some x =>
    obtain ⟨h1, h2⟩ := (mget_of h.a.ok).1 hg
    rw [(mget_of h.b.ok).2 ⟨h.same.subset h1, h2⟩]
theorem AI.dropB {i : Nat} {S : List Int} {H : HL} {N : NL} {H' : HL} {N' : NL} (h : AI i S H N H' N') (no : Int) : AI (i + 1) S (dropH H 1 no) N (dropH H' 1 no) N' :=
  ⟨(h.a.filter _).up (by omega), (h.b.filter _).up (by omega), by rw [ofL_drop h.a.ok, ofL_drop h.b.ok]; exact h.same.filter _, h.cnt, h.seen, by have := h.len; omega⟩
theorem AI.dropA {i : Nat} {S : List Int} {H : HL} {N : NL} {H' : HL} {N' : NL} (h : AI i S H N H' N') {w : Int} (hw : w ≠ 1) (no : Int) : AI (i + 1) S (dropH H w no) N H' N' :=
  ⟨(h.a.filter _).up (by omega), h.b.up (by omega), by
    rw [ofL_drop h.a.ok, List.filter_eq_self.2 fun x _ => by simp [Ne.symm hw]]; exact h.same, h.cnt, h.seen, by have := h.len; omega⟩
theorem cn_set (N : NL) (w v c : Int) : cn (mset N w c) v = if w = v then c else cn N v := by
  conv => lhs; unfold cn
  rw [mget_set]
  by_cases h : w = v
  · rw [if_pos h, if_pos h]; rfl
  · rw [if_neg h, if_neg h]; rfl
theorem hAlone_body {fl : Nat} {p0 : List HAct} {S : List Int} {H : HL} {N : NL} {H' : HL} {N' : NL} {i : Nat} (hw0 : ∀ x ∈ p0, 0 ≤ x.X.Who) (hf : 1000 < fl) (h : AI i S H N H' N') (hi : i < p0.length) (h60 : i < 60) :
    ∃ S2 H2 N2 H2' N2', F_hAlone_b0 fl p0 (S, (i : Int), H, N, H', N') = some (.inl (S2, ((i + 1 : Nat) : Int), H2, N2, H2', N2')) ∧ AI (i + 1) S2 H2 N2 H2' N2' := by
  have hx := List.getElem?_eq_getElem hi
  have hpos := hw0 p0[i] (List.getElem_mem hi)
  generalize p0[i] = a at hx hpos
  have hsl := h.len
  unfold F_hAlone_b0
  simp only
  rw [show (decide ((i : Int) < (p0.length : Int)) && decide ((i : Int) < 60)) = true from by simp; omega, ifb_1]
  simp only [ixb_n hx]
  rw [wrapi (by omega) (by omega)]
  rw [Int.tmod_eq_emod_of_nonneg hpos, Int.tmod_eq_emod_of_nonneg hpos]
  by_cases hm : a.X.Who % 2 = 1
  · simp only [decide_eq_true hm, ifb_1, bnd_s, Bool.not_true, ifb_0]
    by_cases k3 : a.Kind = 3
    · refine ⟨S, _, N, _, N', ?_, h.dropB a.X.No⟩
      rw [decide_eq_true k3, ifb_1, tdrop_eq h.a, bnd_s, tdrop_eq h.b, bnd_s, numG_eq, bnd_s, numG_eq, bnd_s]
      simp only
      rw [h.get, decide_eq_false (by simp), ifb_0, bnd_s, ocs_2]
      rfl
    · rw [decide_eq_false k3, ifb_0]
      have hl := h.same.length_eq
      rcases tgive_eq h.a (by omega) (show 12 < fl by omega) ⟨1, a.X.No, a.X.Space, a.X.Gen, a.X.Txn⟩ with ⟨h8, hg⟩ | ⟨h8, hg, ht⟩
      · rcases tgive_eq h.b (by omega) (show 12 < fl by omega) ⟨1, a.X.No, a.X.Space, a.X.Gen, a.X.Txn⟩ with ⟨h8', hg'⟩ | ⟨h8', hg', ht'⟩
        · refine ⟨S, H, N, H', N', ?_, ⟨h.a.up (by omega), h.b.up (by omega), h.same, h.cnt, h.seen, by omega⟩⟩
          obtain ⟨m, rfl⟩ : ∃ m, fl = m + 1 := ⟨fl - 1, by omega⟩
          have hb1 : F_hAlone_b1 (S, (i : Int), H, N, H', N') (0, some 7, ⟨H, N⟩) 0 = some (.inr (.inr ())) := by
            unfold F_hAlone_b1
            simp [ifb]
          rw [hg, hg']
          simp only [bnd_s, numG_eq, ne_eq, not_true_eq_false, decide_false, beq_self_eq_true, gif_1, Bool.or_self, ifb_0, lp_end hb1, ocs_2, Option.isNone_some]
          rfl
        · simp only at h8 h8'; omega
      · rcases tgive_eq h.b (by omega) (show 12 < fl by omega) ⟨1, a.X.No, a.X.Space, a.X.Gen, a.X.Txn⟩ with ⟨h8', hg'⟩ | ⟨h8', hg', ht'⟩
        · simp only at h8 h8'; omega
        · simp only at hg hg' ht ht'
          rw [← h.cnt] at hg' ht'
          refine ⟨S ++ [cn N 1 + 1], _, _, _, _, ?_, ⟨ht, ht', ?_, ?_, ?_, by simp; omega⟩⟩
          · have hb1 : lp (F_hAlone_b1 (S, (i : Int), H, N, H', N') (cn N 1 + 1, none, ⟨H ++ [((1, cn N 1 + 1), nw ⟨1, a.X.No, a.X.Space, a.X.Gen, a.X.Txn⟩ (cn N 1 + 1))], mset N 1 (cn N 1 + 1)⟩)) fl ((0 : Nat) : Int) = some (.inr ()) :=
              lp_none (l := S) (fun i => ((i : Nat) : Int)) (fun x => decide (x = cn N 1 + 1)) (List.any_eq_false.2 fun x hx => by
                have := h.seen x hx
                simp; omega) (fun j x hx hp => by
                have hj := (List.getElem?_eq_some_iff.1 hx).1
                unfold F_hAlone_b1
                simp only [Option.isNone_none, Bool.and_true]
                rw [decide_eq_true (by omega), ifb_1, ixb_n hx, hp, ifb_0, wrapi (by omega) (by omega)]; rfl) (by
                unfold F_hAlone_b1
                simp [ifb]) (by omega)
            rw [show (((0 : Nat) : Int)) = 0 from rfl] at hb1
            rw [hg, hg']
            simp only [bnd_s, numG_eq, ne_eq, not_true_eq_false, decide_false, beq_self_eq_true, gif_1, Bool.or_self, ifb_0, hb1, ocs_2, Option.isNone_none, ifb_1]
            rw [grd_t ⟨by simp; omega, by simp; omega⟩]
            rfl
          · rw [ofL_y (by rfl), ofL_y (by rfl)]
            exact h.same.append_right _
          · rw [cn_set, cn_set]; simp
          · intro k hk
            rw [cn_set, if_pos rfl]
            rcases List.mem_append.1 hk with hk | hk
            · have := h.seen k hk; omega
            · simp at hk; omega
  · have hw1 : a.X.Who % 4 ≠ 1 := by omega
    simp only [decide_eq_false hm, ifb_0, bnd_s, Bool.not_false, ifb_1]
    by_cases k3 : a.Kind = 3
    · refine ⟨S, _, N, H', N', ?_, h.dropA hw1 a.X.No⟩
      rw [decide_eq_true k3, ifb_1, tdrop_eq h.a, bnd_s, bnd_s, ocs_2]
      rfl
    · rw [decide_eq_false k3, ifb_0]
      rcases tgive_eq h.a (by omega) (show 12 < fl by omega) ⟨a.X.Who % 4, a.X.No, a.X.Space, a.X.Gen, a.X.Txn⟩ with ⟨h8, hg⟩ | ⟨h8, hg, ht⟩
      · refine ⟨S, H, N, H', N', ?_, ⟨h.a.up (by omega), h.b.up (by omega), h.same, h.cnt, h.seen, by omega⟩⟩
        rw [hg]
        rfl
      · simp only at hg ht
        refine ⟨S, _, _, H', N', ?_, ⟨ht, h.b.up (by omega), ?_, ?_, ?_, by omega⟩⟩
        · rw [hg]; rfl
        · rw [ofL_n (by exact hw1)]; exact h.same
        · rw [cn_set, if_neg hw1]; exact h.cnt
        · intro k hk; rw [cn_set, if_neg hw1]; exact h.seen k hk
theorem ai0 : AI 0 [] [] [] [] [] := ⟨tok0, tok0, .refl _, rfl, (fun k hk => nomatch hk), Nat.le_refl _⟩
theorem hAlone_eq {fl : Nat} {p0 : List HAct} (hw0 : ∀ x ∈ p0, 0 ≤ x.X.Who) (hf : 1000 < fl) : F_hAlone fl p0 = some true := by
  have hl : ∃ o, lp (F_hAlone_b0 fl p0) fl (([] : List Int), (0 : Int), ([] : HL), ([] : NL), ([] : HL), ([] : NL)) = some o ∧ ∃ S H N H' N', o = .inr (H, N, H', N') ∧ AI 60 S H N H' N' :=
    lp_inv (S := List Int × HL × NL × HL × NL) (body := F_hAlone_b0 fl p0) (fun i s => (s.1, (i : Int), s.2.1, s.2.2.1, s.2.2.2.1, s.2.2.2.2)) (fun i s => AI i s.1 s.2.1 s.2.2.1 s.2.2.2.1 s.2.2.2.2) (fun o => ∃ S H N H' N', o = .inr (H, N, H', N') ∧ AI 60 S H N H' N') (n := min p0.length 60) (fl := fl) (s0 := ([], [], [], [], [])) ai0
      (fun i s hi hI => .inl (by
        obtain ⟨S2, H2, N2, H2', N2', h1, h2⟩ := hAlone_body hw0 hf hI (by omega) (by omega)
        exact ⟨(S2, H2, N2, H2', N2'), h1, h2⟩))
      (fun s hI => ⟨_, by
        unfold F_hAlone_b0
        simp only
        rw [show (decide (((min p0.length 60 : Nat) : Int) < (p0.length : Int)) && decide (((min p0.length 60 : Nat) : Int) < 60)) = false from by simp; omega, ifb_0], s.1, _, _, _, _, rfl, ⟨hI.a.up (by omega), hI.b.up (by omega), hI.same, hI.cnt, hI.seen, by have := hI.len; omega⟩⟩) (by omega)
  obtain ⟨o, h1, S, H, N, H', N', rfl, h⟩ := hl
  unfold F_hAlone
  have he : ofS H 1 = ofS H' 1 := ofS_eq h.a.ok (ofS_up _ _) ((ofS_perm _ _).trans h.same.symm)
  rw [h1, bnd_s, ocs_2]
  simp only
  rw [tof_eq h.a (by omega) (by omega), bnd_s, tof_eq h.b (by omega) (by omega), bnd_s, he, decide_eq_false (by simp), ifb_0]
  have hl : (ofS H' 1).length ≤ 8 := by rw [(ofS_perm H' 1).length_eq]; exact h.b.eight 1
  rw [lp_cmp (l := ofS H' 1) (m := ofS H' 1) (body := F_hAlone_b2 (ofS H' 1) (ofS H' 1)) qI (fun a b => by
      obtain ⟨a1, a2, a3, a4, a5⟩ := a
      obtain ⟨b1, b2, b3, b4, b5⟩ := b
      simp [qI]) rfl (fun t => rfl) (by omega) (by omega), if_pos rfl]
  rw [bnd_s, ocs_2, sure34_eq (by omega)]
  rfl
end Go.Proofs.YtmnhfpcbfdgbcaaDoor.Eng.A

/- Handles: the third law in plain Lean. -/
namespace Go.Proofs.YtmnhfpcbfdgbcaaDoor.Eng.A
set_option linter.unusedVariables false
set_option linter.unusedSimpArgs false
open Go.RowKit Go.Proofs.YtmnhfpcbfdgbcaaDoor.Plain Go.Proofs.YtmnhfpcbfdgbcaaDoor.Eng Go.Proofs.YtmnhfpcbfdgbcaaDoor.Eng.Hb Go.Proofs.YtmnhfpcbfdgbcaaDoor.Eng.Hc Go.Proofs.YtmnhfpcbfdgbcaaDoor.Eng.Hd Go.Proofs.YtmnhfpcbfdgbcaaDoor.Eng.He Go.Proofs.YtmnhfpcbfdgbcaaDoor.Eng.Hf Go.Proofs.YtmnhfpcbfdgbcaaDoor.Eng.Er
def keep (sp : Int) (l : List Itm) : List Itm := l.filter fun x => decide (¬ x.Space = sp)
theorem give_loop {fl : Nat} (p0 : List HAct) (hf : 1000 < fl) : ∃ H N, lp (F_hForgets_b0 fl p0) fl ((0 : Int), ([] : HL), ([] : NL)) = some (H, N) ∧ TOk H N 40 := by
  have := lp_inv (S := HL × NL) (body := F_hForgets_b0 fl p0) (fun i s => ((i : Int), s.1, s.2)) (fun i s => TOk s.1 s.2 i) (fun o => TOk o.1 o.2 40) (n := min p0.length 40) (fl := fl) (s0 := ([], [])) tok0
    (fun i s hi hI => .inl (by
      have hx := List.getElem?_eq_getElem (show i < p0.length by omega)
      generalize p0[i]'(by omega) = a at hx
      unfold F_hForgets_b0
      simp only
      rw [show (decide ((i : Int) < (p0.length : Int)) && decide ((i : Int) < 40)) = true from by simp; omega, ifb_1, ixb_n hx, wrapi (by omega) (by omega)]
      rcases tgive_eq hI (by omega) (show 12 < fl by omega) a.X with ⟨h8, hg⟩ | ⟨h8, hg, ht⟩
      · exact ⟨s, by rw [hg]; rfl, hI.up (by omega)⟩
      · exact ⟨(_, _), by rw [hg]; rfl, ht⟩))
    (fun s hI => ⟨_, by
      unfold F_hForgets_b0
      simp only
      rw [show (decide (((min p0.length 40 : Nat) : Int) < (p0.length : Int)) && decide (((min p0.length 40 : Nat) : Int) < 40)) = false from by simp; omega, ifb_0], hI.up (by omega)⟩) (by omega)
  obtain ⟨⟨H, N⟩, h1, h2⟩ := this
  exact ⟨H, N, h1, h2⟩
theorem u5n {k : Nat} (h : k < 5) : IntKind.u64.wrap ((k : Int)) = (k : Int) := wrap_u64 (by omega)
def was5 (H : HL) : List (List Itm) := [ofS H 0, ofS H 1, ofS H 2, ofS H 3, ofS H 4]
theorem was5_at (H : HL) {k : Nat} (h : k < 5) : (was5 H)[k]? = some (ofS H (k : Int)) := by
  have : k = 0 ∨ k = 1 ∨ k = 2 ∨ k = 3 ∨ k = 4 := by omega
  rcases this with rfl | rfl | rfl | rfl | rfl <;> rfl
theorem was_loop {fl : Nat} {H : HL} {N : NL} (h : TOk H N 40) (hf : 1000 < fl) : lp (F_hForgets_b1 fl (H, N)) fl ((0 : Int), ([[], [], [], [], []] : List (List Itm))) = some (was5 H) := by
  have := lp_seq (fun i => (((i : Nat) : Int), (was5 H).take i ++ List.replicate (5 - i) ([] : List Itm))) (n := 5) (body := F_hForgets_b1 fl (H, N)) (o := was5 H) (fl := fl) (fun i hi => by
    unfold F_hForgets_b1
    simp only
    have hl : ((was5 H).take i ++ List.replicate (5 - i) ([] : List Itm)).length = 5 := by simp [was5]; omega
    rw [decide_eq_true (by omega), ifb_1, u5n hi, tof_eq h (by omega) (by omega), bnd_s, grd_t (belo hi), grd_t (by rw [hl]; simpa using belo hi), wrapi (by omega) (by omega)]
    congr 3
    have : i = 0 ∨ i = 1 ∨ i = 2 ∨ i = 3 ∨ i = 4 := by omega
    rcases this with rfl | rfl | rfl | rfl | rfl <;> rfl) (by
    unfold F_hForgets_b1
    rfl) (by omega)
  exact this
theorem inner_loop {fl : Nat} {sp : Int} {W : List (List Itm)} {k : Nat} {H Ht : HL} {N Nt : NL} {t : HL × NL} (hk : k < 5) (hW : W[k]? = some (ofS H (k : Int))) (h : TOk H N 40) (ht : TOk Ht Nt 100) (hs : (ofL Ht (k : Int)).Perm (keep sp (ofL H (k : Int)))) (hf : 1000 < fl) :
    lp (F_hForgets_b3 sp W ((k : Int), t) (ofS Ht (k : Int))) fl ((0 : Int), (0 : Int), Ht) = some (.inr (((keep sp (ofS H (k : Int))).length : Int), Ht)) := by
  have hnow : ofS Ht (k : Int) = keep sp (ofS H (k : Int)) := ofS_eq ht.ok ((ofS_up H _).sublist List.filter_sublist) (((ofS_perm H _).filter _).trans hs.symm)
  have h8 : (ofS H (k : Int)).length ≤ 8 := by rw [(ofS_perm H _).length_eq]; exact h.eight _
  have hmem : ∀ x, x ∈ ofS H (k : Int) → x ∈ ofL H (k : Int) := fun x hx => (ofS_perm H _).subset hx
  rw [hnow]
  generalize hw : ofS H (k : Int) = l at hW h8 hmem ⊢
  have := lp_take (l := l) (fun d i => (((keep sp d).length : Int), (i : Int), Ht)) (body := F_hForgets_b3 sp W ((k : Int), t) (keep sp l)) (fl := fl) (o := .inr (((keep sp l).length : Int), Ht)) (fun i x hx => by
    have hi := (List.getElem?_eq_some_iff.1 hx).1
    have hxm := hmem x (List.mem_of_getElem? hx)
    have hxw := ((ofL_in h.ok).1 hxm).1
    have hkl : (keep sp (l.take i)).length ≤ 8 := by
      have h1 := List.length_filter_le (fun x => decide (¬ x.Space = sp)) (l.take i)
      have h2 := List.length_take_le i l
      unfold keep; omega
    unfold F_hForgets_b3
    simp only [u5n hk, Int.toNat_natCast]
    rw [grd_t (belo hk), ixb_n hW, decide_eq_true (by omega), ifb_1, grd_t (belo hk), ixb_n hW, ixb_n hx, wrapi (by omega) (by omega)]
    by_cases hsp : x.Space = sp
    · have hg : mget Ht ((k : Int), x.No) = none := (mget_ofn ht.ok).2 fun y hy hn => by
        have h1 := List.mem_filter.1 (hs.subset hy)
        rw [ofL_inj h.ok h1.1 hxm hn] at h1
        simp [hsp] at h1
      have hd : dropH Ht (k : Int) x.No = Ht := List.filter_eq_self.2 fun e he => by
        rw [mget_none] at hg
        exact decide_eq_true fun h2 => hg (h2 ▸ List.mem_map_of_mem he)
      rw [tdrop_eq ht, hd, show F_tget Ht (k : Int) x.No = some (i0, some 11) from by unfold F_tget hget; rw [hg]; rfl, bnd_s, decide_eq_true hsp, ifb_1, numG_eq, bnd_s]
      simp only [numG_eq, numV, ne_eq, not_true_eq_false, decide_false, ifb_0, bnd_s, hg, Option.isSome_none, Bool.false_eq_true, if_false, ocs_2, wrapi (n := (i : Int) + 1) (by omega) (by omega)]
      simp [keep, hsp]
    · have hxt : x ∈ ofL Ht (k : Int) := hs.symm.subset (List.mem_filter.2 ⟨hxm, decide_eq_true hsp⟩)
      have hg : mget Ht ((k : Int), x.No) = some x := (mget_of ht.ok).2 ⟨hxt, rfl⟩
      have hn : (keep sp l)[(keep sp (l.take i)).length]? = some x := by
        have e : l = l.take i ++ x :: l.drop (i + 1) := by
          have := List.getElem_cons_drop hi
          rw [(List.getElem?_eq_some_iff.1 hx).2] at this
          rw [this, List.take_append_drop]
        conv => lhs; arg 1; rw [e]
        unfold keep
        rw [List.filter_append, List.getElem?_append_right (Nat.le_refl _), Nat.sub_self, List.filter_cons, if_pos (by simpa using hsp)]
        rfl
      have hlt := (List.getElem?_eq_some_iff.1 hn).1
      have hq := qI_self x
      unfold qI at hq
      rw [show F_tget Ht (k : Int) x.No = some (x, none) from by unfold F_tget hget; rw [hg]; rfl, bnd_s, decide_eq_false hsp, ifb_0]
      simp only [Option.isSome_none, eq_self, decide_true, Bool.and_self, Bool.not_true, Bool.or_self, Bool.false_or]
      have hd : decide (((keep sp l).length : Int) ≤ ((keep sp (l.take i)).length : Int)) = false := decide_eq_false (by omega)
      simp only [hd, beq_self_eq_true, true_imp_iff, grd_t (belo hlt), getD_at hn, Bool.false_or, eq_self, decide_true, Bool.and_self, Bool.not_true, ifb_0]
      rw [wrapi (by omega) (by omega), bnd_s, ocs_2]
      congr 3
      simp [keep, hsp]) (by
    unfold F_hForgets_b3
    simp only [Int.toNat_natCast]
    rw [grd_t (belo hk), ixb_n hW, decide_eq_false (by omega), ifb_0]) (by omega)
  exact this
theorem who_loop {fl : Nat} {sp : Int} {H Hf : HL} {N : NL} (h : TOk H N 40) (hf : 1000 < fl) (hF : TOk Hf N 40) (hs : ∀ w, (ofL Hf w).Perm (keep sp (ofL H w))) :
    ∃ o, lp (F_hForgets_b2 fl sp (was5 H)) fl ((0 : Int), Hf, N) = some o ∧ ∃ v, o = .inr v := by
  have := lp_inv (S := HL × NL) (body := F_hForgets_b2 fl sp (was5 H)) (fun i s => ((i : Int), s.1, s.2)) (fun i s => TOk s.1 s.2 (40 + i) ∧ ∀ w : Nat, i ≤ w → (ofL s.1 (w : Int)).Perm (keep sp (ofL H (w : Int)))) (fun o => ∃ v, o = .inr v) (n := 5) (fl := fl) (s0 := (Hf, N)) ⟨hF, fun w _ => hs w⟩
    (fun i s hi hI => .inl (by
      obtain ⟨Ht, Nt⟩ := s
      obtain ⟨ht, hp⟩ := hI
      simp only at ht hp
      have hnow : ofS Ht (i : Int) = keep sp (ofS H (i : Int)) := ofS_eq ht.ok ((ofS_up H _).sublist List.filter_sublist) (((ofS_perm H _).filter _).trans (hp i (Nat.le_refl _)).symm)
      have h8 : (ofS Ht (i : Int)).length ≤ 8 := by rw [(ofS_perm Ht _).length_eq]; exact ht.eight _
      unfold F_hForgets_b2
      simp only [u5n hi]
      rw [decide_eq_true (by omega), ifb_1, tof_eq ht (by omega) (by omega), bnd_s, inner_loop hi (was5_at H hi) h (ht.up (by omega)) (hp i (Nat.le_refl _)) hf, bnd_s, ocs_2, ← hnow, wrapi (by omega) (by omega)]
      simp only [ne_eq, not_true_eq_false, decide_false, ifb_0]
      cases hl : ofS Ht (i : Int) with
      | nil =>
        refine ⟨(Ht, Nt), rfl, ht.up (by omega), fun w hw => hp w (by omega)⟩
      | cons x l =>
        have hx : x ∈ ofL Ht (i : Int) := (ofS_perm Ht _).subset (by rw [hl]; simp)
        have hxw := ((ofL_in ht.ok).1 hx).1
        have hg : mget Ht ((i : Int), x.No) = some x := (mget_of ht.ok).2 ⟨hx, rfl⟩
        have hd : TOk (dropH Ht (i : Int) x.No) Nt (40 + i) := ht.filter _
        have hg2 : mget (dropH Ht (i : Int) x.No) ((i : Int), x.No) = none := (mget_ofn hd.ok).2 fun y hy hn => by
          rw [ofL_drop ht.ok] at hy
          have := (List.mem_filter.1 hy).2
          simp [hn] at this
        have hno := (ht.num _ ((ofL_in ht.ok).1 hx).2).2
        simp only [hxw] at hno
        have hlen : (ofL (dropH Ht (i : Int) x.No) (i : Int)).length < 8 := by
          have h9 := ht.eight (i : Int)
          have : (ofL (dropH Ht (i : Int) x.No) (i : Int)).length < (ofL Ht (i : Int)).length := by
            rw [ofL_drop ht.ok]
            exact List.length_filter_lt_length_iff_exists.2 ⟨x, hx, by simp⟩
          omega
        rw [decide_eq_true (by simp <;> omega), ifb_1, show ixb (x :: l) 0 = fun k => k x from by funext k; exact ixb_n (n := 0) rfl k]
        simp only
        rw [tdrop_eq ht, bnd_s, hg]
        simp only
        rw [show F_tget (dropH Ht (i : Int) x.No) (i : Int) x.No = some (i0, some 11) from by unfold F_tget hget; rw [hg2]; rfl, bnd_s]
        rcases tgive_eq hd (by omega) (show 12 < fl by omega) ⟨(i : Int), 0, 0, 0, 0⟩ with ⟨h8', hg'⟩ | ⟨h8', hg', ht'⟩
        · simp only at h8'; omega
        · simp only at hg' ht'
          rw [hg', bnd_s]
          have e1 : decide (cn Nt (i : Int) + 1 = x.No) = false := decide_eq_false (by omega)
          refine ⟨(_, _), ?_, ht', fun w hw => ?_⟩
          · simp only [Option.isSome_some, if_true, Option.isSome_none, beq_self_eq_true, gif_1, numG_eq, bnd_s, numV, ne_eq, not_true_eq_false, decide_false, Bool.or_self, true_imp_iff, Bool.false_or]
            rw [grd_t ⟨by omega, by simp⟩]
            rw [show (x :: l).getD (0 : Int).toNat default = x from rfl, e1, ifb_0, bnd_s, ocs_2, show ((i : Int) + 1) = ((i + 1 : Nat) : Int) from by omega]
            rfl
          · have hne : ¬ (i : Int) = (w : Int) := by omega
            rw [ofL_n (by exact hne), ofL_drop ht.ok, List.filter_eq_self.2 fun y _ => by simp [Ne.symm hne]]
            exact hp w (by omega)))
    (fun s hI => ⟨_, by
      unfold F_hForgets_b2
      simp only
      rw [decide_eq_false (by omega), ifb_0], _, rfl⟩) (by omega)
  exact this
theorem hForgets_eq {fl : Nat} (p0 : List HAct) (p1 : Int) (hf : 1000 < fl) : F_hForgets fl p0 p1 = some true := by
  obtain ⟨H, N, h1, h2⟩ := give_loop p0 hf
  obtain ⟨o, h3, v, rfl⟩ := who_loop (sp := p1) h2 hf (h2.filter fun z => decide (¬ z.2.Space = p1)) (fun w => by rw [ofL_forget h2.ok]; exact .refl _)
  unfold F_hForgets
  rw [h1, bnd_s, grd_t (by simp), grd_t (by simp), was_loop h2 hf, bnd_s]
  simp only
  rw [tforget_eq h2, bnd_s, h3, bnd_s, ocs_2, sure34_eq (by omega)]
  rfl
end Go.Proofs.YtmnhfpcbfdgbcaaDoor.Eng.A
