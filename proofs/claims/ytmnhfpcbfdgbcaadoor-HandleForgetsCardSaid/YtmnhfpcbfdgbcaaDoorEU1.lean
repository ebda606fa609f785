/- EU1: what functions do, walked; used by the laws of this seat. -/
import Derived.Test.YtmnhfpcbfdgbcaaDoorEW2
import Derived.Test.YtmnhfpcbfdgbcaaDoorEngX4
import Derived.Test.YtmnhfpcbfdgbcaaDoorEngX3
import Derived.Test.YtmnhfpcbfdgbcaaDoorEW1
import Derived.Test.YtmnhfpcbfdgbcaaDoorEW3
namespace Go.Proofs.YtmnhfpcbfdgbcaaDoor.Eng.A
set_option linter.unusedVariables false
set_option linter.unusedSimpArgs false
open Go.RowKit Go.Proofs.YtmnhfpcbfdgbcaaDoor.Plain Go.Proofs.YtmnhfpcbfdgbcaaDoor.Eng Go.Proofs.YtmnhfpcbfdgbcaaDoor.Eng.Pk Go.Proofs.YtmnhfpcbfdgbcaaDoor.Eng.Rd




theorem errV_eql (o : Option Int) (w : World) : (binOp .eql 34 (errV o) .nilIface).run Go.Proofs.Tryd.prog w = .ok (.bool o.isNone) w := by cases o <;> simp [errV, go_sem]
theorem errV_geql (o : Option Int) (w : World) (x : Operand) : (eqGuard .eql 34 x (.const .nilIface) (errV o) .nilIface).run Go.Proofs.Tryd.prog w = .ok () w := by cases o <;> simp [errV, go_sem]
theorem beq_dec (a b : Int) : (a == b) = decide (a = b) := rfl

structure Ent where
  Key : ByteArray
  Value : ByteArray
  deriving DecidableEq
instance : Inhabited Ent := ⟨⟨⟨#[]⟩, ⟨#[]⟩⟩⟩
structure Rf where
  Slot : Int
  Gen : Int
  deriving DecidableEq
instance : Inhabited Rf := ⟨⟨0, 0⟩⟩
structure Lin where
  Seq : Int
  Who : Int
  What : Int
  Code : Int
  Key : ByteArray
  deriving DecidableEq
instance : Inhabited Lin := ⟨⟨0, 0, 0, 0, ⟨#[]⟩⟩⟩
structure Rpl where
  Code : Int
  N : Int
  Found : Bool
  Value : ByteArray
  Rows : (List Ent)
  Refs : (List Rf)
  Lines : (List Lin)
  deriving DecidableEq
instance : Inhabited Rpl := ⟨⟨0, 0, false, ⟨#[]⟩, [], [], []⟩⟩
end Go.Proofs.YtmnhfpcbfdgbcaaDoor.Eng.A

namespace Go.Proofs.YtmnhfpcbfdgbcaaDoor.Eng.A
set_option linter.unusedVariables false
set_option linter.unusedSimpArgs false
open Go.RowKit Go.Proofs.YtmnhfpcbfdgbcaaDoor.Plain Go.Proofs.YtmnhfpcbfdgbcaaDoor.Eng Go.Proofs.YtmnhfpcbfdgbcaaDoor.Eng.Pk Go.Proofs.YtmnhfpcbfdgbcaaDoor.Eng.Rd

end Go.Proofs.YtmnhfpcbfdgbcaaDoor.Eng.A

namespace Go.Proofs.YtmnhfpcbfdgbcaaDoor.Eng.A
set_option linter.unusedVariables false
set_option linter.unusedSimpArgs false
open Go.RowKit Go.Proofs.YtmnhfpcbfdgbcaaDoor.Plain Go.Proofs.YtmnhfpcbfdgbcaaDoor.Eng Go.Proofs.YtmnhfpcbfdgbcaaDoor.Eng.Pk Go.Proofs.YtmnhfpcbfdgbcaaDoor.Eng.Rd



open Go.Proofs.YtmnhfpcbfdgbcaaDoor.Eng.Pb Go.Proofs.YtmnhfpcbfdgbcaaDoor.Eng.Rf06 Go.Proofs.YtmnhfpcbfdgbcaaDoor.Eng.Er

structure Rdr where
  b_ : (List Int)
  wrong_ : Bool
  deriving DecidableEq
instance : Inhabited Rdr := ⟨⟨[], false⟩⟩
instance (l : List Int) : Decidable (Bts l) := inferInstanceAs (Decidable (∀ x ∈ l, _))
def U64 (n : Int) : Prop := 0 ≤ n ∧ n < 18446744073709551616
instance (n : Int) : Decidable (U64 n) := inferInstanceAs (Decidable (_ ∧ _))
def Wrd (n : Nat) : Prop := n + 10 ≤ 140737488355328
instance (n : Nat) : Decidable (Wrd n) := inferInstanceAs (Decidable (_ ≤ _))
/-! Readers -/
def RdOk (r : Rdr) : Prop := Bts r.b_ ∧ r.b_.length ≤ 140737488355328
instance (r : Rdr) : Decidable (RdOk r) := inferInstanceAs (Decidable (_ ∧ _))
def I64 (n : Int) : Prop := -9223372036854775808 ≤ n ∧ n < 9223372036854775808
instance (n : Int) : Decidable (I64 n) := inferInstanceAs (Decidable (_ ∧ _))
/-! The document's readers -/
end Go.Proofs.YtmnhfpcbfdgbcaaDoor.Eng.A
