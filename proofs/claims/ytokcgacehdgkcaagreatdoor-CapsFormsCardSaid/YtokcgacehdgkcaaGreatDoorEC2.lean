/- EC2: what functions do, walked; used by the laws of this seat. -/
import Derived.Test.YtokcgacehdgkcaaGreatDoorEC1
import Derived.Test.YtokcgacehdgkcaaGreatDoorEW1
import Derived.Test.YtokcgacehdgkcaaGreatDoorEW3
namespace Go.Proofs.YtokcgacehdgkcaaGreatDoor.Eng.A
set_option linter.unusedVariables false
set_option linter.unusedSimpArgs false
open Go.RowKit Go.Proofs.YtokcgacehdgkcaaGreatDoor.Plain Go.Proofs.YtokcgacehdgkcaaGreatDoor.Eng Go.Proofs.YtokcgacehdgkcaaGreatDoor.Eng.Pk Go.Proofs.YtokcgacehdgkcaaGreatDoor.Eng.Rd



open Go.Proofs.YtokcgacehdgkcaaGreatDoor.Eng.Pb Go.Proofs.YtokcgacehdgkcaaGreatDoor.Eng.Rf06 Go.Proofs.YtokcgacehdgkcaaGreatDoor.Eng.Er

structure Rdr where
  b_ : (List Int)
  wrong_ : Bool
  deriving DecidableEq
instance : Inhabited Rdr := ⟨⟨[], false⟩⟩
instance (l : List Int) : Decidable (Bts l) := inferInstanceAs (Decidable (∀ x ∈ l, _))
def U64 (n : Int) : Prop := 0 ≤ n ∧ n < 18446744073709551616
instance (n : Int) : Decidable (U64 n) := inferInstanceAs (Decidable (_ ∧ _))
theorem u64n {n : Int} (h : U64 n) : pl (.int .u64 n) = pl (.int .u64 ((n.toNat : Nat) : Int)) := by have := h.1; congr 2; omega
def Wrd (n : Nat) : Prop := n + 10 ≤ 140737488355328
instance (n : Nat) : Decidable (Wrd n) := inferInstanceAs (Decidable (_ ≤ _))
def oByte (l : List Int) (c : Int) : Option (List Int) := grd (Wrd l.length) (some (l ++ [c]))
def oNum (l : List Int) (n : Int) : Option (List Int) := grd (Wrd l.length ∧ U64 n) (some (l ++ vb n.toNat))
def oBytes (l m : List Int) : Option (List Int) := grd (Wrd (l.length + m.length)) (some (l ++ (vb m.length ++ m)))
theorem c_oByte {p0 : List Int} {p1 : Int} {R : List Int} (h0 : oByte p0 p1 = some R) : Own1 Go.Proofs.Tryz.prog 35 [sl (kI .u8) none none p0, pl (.int .u8 p1)] (kI .u8) 5 none R := by
  obtain ⟨h1, h0⟩ := grd_some h0; obtain rfl := some_of h0; exact pk_byte h1
theorem c_oNum {p0 : List Int} {p1 : Int} {R : List Int} (h0 : oNum p0 p1 = some R) : Own1 Go.Proofs.Tryz.prog 34 [sl (kI .u8) none none p0, pl (.int .u64 p1)] (kI .u8) 5 none R := by
  obtain ⟨h1, h0⟩ := grd_some h0; obtain rfl := some_of h0; rw [u64n h1.2]; exact pk_num h1.1 (by have := h1.2.2; have := h1.2.1; omega)
theorem c_oRput {p0 : List Int} {p1 : Int} {R : List Int} (h0 : oNum p0 p1 = some R) : Own1 Go.Proofs.Tryz.prog 37 [sl (kI .u8) none none p0, pl (.int .u64 p1)] (kI .u8) 5 none R := by
  obtain ⟨h1, h0⟩ := grd_some h0; obtain rfl := some_of h0; rw [u64n h1.2]; exact rput h1.1 (by have := h1.2.2; have := h1.2.1; omega)
theorem c_oBytes {p0 p1 R : List Int} (h0 : oBytes p0 p1 = some R) : Own1 Go.Proofs.Tryz.prog 36 [sl (kI .u8) none none p0, sl (kI .u8) none none p1] (kI .u8) 5 none R := by
  obtain ⟨h1, h0⟩ := grd_some h0; obtain rfl := some_of h0; exact pk_bytes h1
theorem c_oRputs {p0 p1 R : List Int} (h0 : oBytes p0 p1 = some R) : Own1 Go.Proofs.Tryz.prog 38 [sl (kI .u8) none none p0, sl (kI .u8) none none p1] (kI .u8) 5 none R := by
  obtain ⟨h1, h0⟩ := grd_some h0; obtain rfl := some_of h0; exact rputs h1
theorem len_oByte {p0 : List Int} {p1 : Int} {R : List Int} (h0 : oByte p0 p1 = some R) : p0.length ≤ R.length := by
  obtain ⟨h1, h0⟩ := grd_some h0; obtain rfl := some_of h0; simp
theorem len_oNum {p0 : List Int} {p1 : Int} {R : List Int} (h0 : oNum p0 p1 = some R) : p0.length ≤ R.length := by
  obtain ⟨h1, h0⟩ := grd_some h0; obtain rfl := some_of h0; simp
theorem len_oBytes {p0 p1 R : List Int} (h0 : oBytes p0 p1 = some R) : p0.length ≤ R.length := by
  obtain ⟨h1, h0⟩ := grd_some h0; obtain rfl := some_of h0; simp
/-! Readers -/
def oNew (l : List Int) : Option Rdr := grd (Wrd l.length) (some ⟨l, false⟩)
theorem c_oNew {p0 : List Int} {R : Rdr} (h0 : oNew p0 = some R) (s : St) : AC Go.Proofs.Tryz.prog 40 [sl (kI .u8) none none p0] s (ptr s.boxes.length 0) (s.ext [⟨171, [sl (kI .u8) none none R.b_, pl (.bool R.wrong_)]⟩] []) := by
  obtain ⟨h1, h0⟩ := grd_some h0; obtain rfl := some_of h0; exact rd_new h1 s
def RdOk (r : Rdr) : Prop := Bts r.b_ ∧ r.b_.length ≤ 140737488355328
instance (r : Rdr) : Decidable (RdOk r) := inferInstanceAs (Decidable (_ ∧ _))
def rdr (x : List Int × Bool) : Rdr := ⟨x.1, x.2⟩
def oRNum (r : Rdr) (m : Int) : Option (Int × Rdr) := grd (RdOk r ∧ U64 m) (some (((rdNum m.toNat r.b_ r.wrong_).1 : Int), rdr (rdNum m.toNat r.b_ r.wrong_).2))
def oRByte (r : Rdr) : Option (Int × Rdr) := some ((rdByte r.b_ r.wrong_).1, rdr (rdByte r.b_ r.wrong_).2)
def I64 (n : Int) : Prop := -9223372036854775808 ≤ n ∧ n < 9223372036854775808
instance (n : Int) : Decidable (I64 n) := inferInstanceAs (Decidable (_ ∧ _))
def oRBytes (r : Rdr) (m : Int) : Option (List Int × Rdr) := grd (RdOk r ∧ I64 m) (some ((rdBytes m.toNat r.b_ r.wrong_).1, rdr (rdBytes m.toNat r.b_ r.wrong_).2))
def oRDone (r : Rdr) : Option (Option Int) := some (rdDone r.wrong_ r.b_)
theorem c_oRNum {p0 : Rdr} {p1 : Int} {R : Int × Rdr} {s : St} {g : Nat} (h0 : oRNum p0 p1 = some R) (hG : s.boxes[g]? = some ⟨171, [sl (kI .u8) none none p0.b_, pl (.bool p0.wrong_)]⟩) : AC Go.Proofs.Tryz.prog 41 [ptr g 0, pl (.int .u64 p1)] s (pl (.int .u64 R.1)) (s.upd g ⟨171, [sl (kI .u8) none none R.2.b_, pl (.bool R.2.wrong_)]⟩) := by
  obtain ⟨h1, h0⟩ := grd_some h0; obtain rfl := some_of h0
  rw [u64n h1.2]; exact rd_num hG h1.1.1 (Nat.le_trans h1.1.2 (by decide)) (by have := h1.2.2; have := h1.2.1; omega)
theorem c_oRByte {p0 : Rdr} {R : Int × Rdr} {s : St} {g : Nat} (h0 : oRByte p0 = some R) (hG : s.boxes[g]? = some ⟨171, [sl (kI .u8) none none p0.b_, pl (.bool p0.wrong_)]⟩) : AC Go.Proofs.Tryz.prog 42 [ptr g 0] s (pl (.int .u8 R.1)) (s.upd g ⟨171, [sl (kI .u8) none none R.2.b_, pl (.bool R.2.wrong_)]⟩) := by
  obtain rfl := some_of h0; exact rd_byte hG
theorem c_oRBytes {p0 : Rdr} {p1 : Int} {R : List Int × Rdr} {s : St} {g : Nat} (h0 : oRBytes p0 p1 = some R) (hG : s.boxes[g]? = some ⟨171, [sl (kI .u8) none none p0.b_, pl (.bool p0.wrong_)]⟩) : AC Go.Proofs.Tryz.prog 43 [ptr g 0, pl (.int .i64 p1)] s (sl (kI .u8) none none R.1) (s.upd g ⟨171, [sl (kI .u8) none none R.2.b_, pl (.bool R.2.wrong_)]⟩) := by
  obtain ⟨h1, h0⟩ := grd_some h0; obtain rfl := some_of h0; exact rd_bytesI hG h1.1.1 h1.1.2 h1.2
theorem c_oRDone {p0 : Rdr} {R : Option Int} {s : St} {g : Nat} (h0 : oRDone p0 = some R) (hG : s.boxes[g]? = some ⟨171, [sl (kI .u8) none none p0.b_, pl (.bool p0.wrong_)]⟩) : AC Go.Proofs.Tryz.prog 44 [ptr g 0] s (pl (errV R)) s := by
  obtain rfl := some_of h0; exact rd_done hG
/-! The document's readers -/
def oDNum (r : Rdr) (m : Int) : Option (Rdr × Int) := grd (RdOk r ∧ U64 m) (some (rdr (rdNum m.toNat r.b_ false).2, ((rdNum m.toNat r.b_ false).1 : Int)))
def oDByte (r : Rdr) : Option (Rdr × Int) := some (rdr (rdByte r.b_ false).2, (rdByte r.b_ false).1)
def oDBytes (r : Rdr) (m : Int) : Option (Rdr × List Int) := grd (RdOk r ∧ I64 m) (some (rdr (rdBytes m.toNat r.b_ false).2, (rdBytes m.toNat r.b_ false).1))
def oDDone (r : Rdr) : Option Bool := some (!r.wrong_ && decide ((r.b_.length : Int) = 0))
theorem c_oDNum {p0 : Rdr} {p1 : Int} {R : Rdr × Int} (h0 : oDNum p0 p1 = some R) : Pure Go.Proofs.Tryz.prog 45 [agg [sl (kI .u8) none none p0.b_, pl (.bool p0.wrong_)], pl (.int .u64 p1)] (tup [agg [sl (kI .u8) none none R.1.b_, pl (.bool R.1.wrong_)], pl (.int .u64 R.2)]) := by
  obtain ⟨h1, h0⟩ := grd_some h0; obtain rfl := some_of h0
  rw [u64n h1.2]; exact ref_num h1.1.1 (Nat.le_trans h1.1.2 (by decide)) (by have := h1.2.2; have := h1.2.1; omega)
theorem c_oDByte {p0 : Rdr} {R : Rdr × Int} (h0 : oDByte p0 = some R) : Pure Go.Proofs.Tryz.prog 46 [agg [sl (kI .u8) none none p0.b_, pl (.bool p0.wrong_)]] (tup [agg [sl (kI .u8) none none R.1.b_, pl (.bool R.1.wrong_)], pl (.int .u8 R.2)]) := by
  obtain rfl := some_of h0; exact ref_byte
theorem c_oDBytes {p0 : Rdr} {p1 : Int} {R : Rdr × List Int} (h0 : oDBytes p0 p1 = some R) : Pure Go.Proofs.Tryz.prog 47 [agg [sl (kI .u8) none none p0.b_, pl (.bool p0.wrong_)], pl (.int .i64 p1)] (tup [agg [sl (kI .u8) none none R.1.b_, pl (.bool R.1.wrong_)], sl (kI .u8) none none R.2]) := by
  obtain ⟨h1, h0⟩ := grd_some h0; obtain rfl := some_of h0
  exact ref_bytes h1.1.1 (Nat.le_trans h1.1.2 (by decide)) ⟨h1.2.1, by have := h1.2.2; omega⟩
theorem c_oDDone {p0 : Rdr} {R : Bool} (h0 : oDDone p0 = some R) : Pure Go.Proofs.Tryz.prog 48 [agg [sl (kI .u8) none none p0.b_, pl (.bool p0.wrong_)]] (pl (.bool R)) := by
  obtain rfl := some_of h0; exact ref_done
end Go.Proofs.YtokcgacehdgkcaaGreatDoor.Eng.A
