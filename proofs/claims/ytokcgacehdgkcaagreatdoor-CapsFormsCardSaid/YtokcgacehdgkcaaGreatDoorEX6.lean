/- The engine: maps, as variables whose one cell tells all entries. -/
import Derived.Test.YtokcgacehdgkcaaGreatDoorEX5
import Derived.MapKept
import Derived.Maps.RangeRun
namespace Go.Proofs.YtokcgacehdgkcaaGreatDoor.Eng
set_option linter.unusedVariables false
set_option linter.unusedSimpArgs false
open Go.RowKit

structure MK (κ ν : Type) where
  ek : κ → Value
  ev : ν → Value
def encE (e : MapEntry) : List Value := [e.key, e.val, .int .i64 e.born]
def encM (es : List MapEntry) (c : Nat) : Value := .agg (.int .i64 c :: .int .i64 es.length :: es.flatMap encE).toArray
structure Ents {κ ν : Type} (K : MK κ ν) (l : List (κ × ν)) (es : List MapEntry) (c : Nat) : Prop where
  kv : es.map (fun e => (e.key, e.val)) = l.map (fun x => (K.ek x.1, K.ev x.2))
  inc : es.Pairwise (fun a b => a.born < b.born)
  lt : ∀ e ∈ es, e.born < c
/-- A map's entries. -/
def mp {κ ν : Type} (K : MK κ ν) (l : List (κ × ν)) : Pd := ⟨fun _ _ v => ∃ es c, v = encM es c ∧ Ents K l es c, fun _ h => h⟩
section
variable {κ ν : Type} {K : MK κ ν} {l : List (κ × ν)} {es : List MapEntry} {c : Nat}
theorem Ents.len (h : Ents K l es c) : es.length = l.length := by have := congrArg List.length h.kv; simpa using this
theorem Ents.at (h : Ents K l es c) {i : Nat} {x : κ × ν} (hx : l[i]? = some x) : ∃ e, es[i]? = some e ∧ e.key = K.ek x.1 ∧ e.val = K.ev x.2 := by
  have h1 := congrArg (fun l => l[i]?) h.kv
  simp only [List.getElem?_map, hx, Option.map_some] at h1
  obtain ⟨e, he, h2⟩ := Option.map_eq_some_iff.1 h1
  simp only [Prod.mk.injEq] at h2
  exact ⟨e, he, h2.1, h2.2⟩
end
end Go.Proofs.YtokcgacehdgkcaaGreatDoor.Eng

/- The engine: what is done with maps. -/
namespace Go.Proofs.YtokcgacehdgkcaaGreatDoor.Eng
set_option linter.unusedVariables false
set_option linter.unusedSimpArgs false
open Go.RowKit

section
variable {P : Program} {e : Env} {s : St} {dst : Option Tmp} {ty : TypeId} {pos : String} {after : Array Edge} {guard : Option (Nat × Bool)} {κ ν : Type} {K : MK κ ν} {l : List (κ × ν)}
end
end Go.Proofs.YtokcgacehdgkcaaGreatDoor.Eng

/- The engine: rows that are read and written in place, element by element. -/
namespace Go.Proofs.YtokcgacehdgkcaaGreatDoor.Eng
set_option linter.unusedVariables false
set_option linter.unusedSimpArgs false
open Go.RowKit

end Go.Proofs.YtokcgacehdgkcaaGreatDoor.Eng

/- The engine: one goes through a map. -/
namespace Go.Proofs.YtokcgacehdgkcaaGreatDoor.Eng
set_option linter.unusedVariables false
set_option linter.unusedSimpArgs false
open Go.RowKit

section
variable {κ ν : Type}
def mkE (K : MK κ ν) (x : (κ × ν) × Nat) : MapEntry := ⟨K.ek x.1.1, K.ev x.1.2, x.2⟩
/-- A map whose entries are known with their births. -/
def MX (K : MK κ ν) (ls : List ((κ × ν) × Nat)) (c : Nat) : Bx := ⟨HOT, [pl (encM (ls.map (mkE K)) c)]⟩
end
section
variable {P : Program} {e : Env} {s : St} {dst : Option Tmp} {ty : TypeId} {pos : String} {after : Array Edge} {guard : Option (Nat × Bool)} {κ ν : Type} {K : MK κ ν}
end
end Go.Proofs.YtokcgacehdgkcaaGreatDoor.Eng

/- Maps as lists of entries: what is got, set, deleted. -/
namespace Go.Proofs.YtokcgacehdgkcaaGreatDoor.Eng
set_option linter.unusedVariables false
set_option linter.unusedSimpArgs false
variable {κ ν : Type} [DecidableEq κ] {l : List (κ × ν)} {k j : κ} {v w : ν}
end Go.Proofs.YtokcgacehdgkcaaGreatDoor.Eng
