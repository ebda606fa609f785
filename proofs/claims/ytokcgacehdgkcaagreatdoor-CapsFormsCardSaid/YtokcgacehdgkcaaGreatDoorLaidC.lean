/- Six variables of the library (three tables, a handle, two errors), as a row lays them. -/
import Derived.Test.YtokcgacehdgkcaaGreatDoorRows
import Derived.Test.YtokcgacehdgkcaaGreatDoorEW2
import Derived.Test.YtokcgacehdgkcaaGreatDoorEC1
import Derived.Test.YtokcgacehdgkcaaGreatDoorEngX4
import Derived.WalkKit
import Derived.ProofKit
import Derived.OpenShut
import Derived.ShutString
import Derived.ChangeOld
import Derived.ChangeSame
import Derived.ChangeVars
import Derived.JoinedOf
import Derived.RowKit
import Derived.RowKitTokens
import Derived.LaidLaws
import Derived.LaidHandle
import Derived.LaidSub
import Derived.Lay
import Derived.Lib.LaidTab
import Derived.Stop.LaidErr
import Derived.Stop.Joined
import Derived.SizedLaws
import Derived.Carry
namespace Go.Proofs.YtokcgacehdgkcaaGreatDoor.Laid
set_option linter.unusedVariables false
set_option linter.unusedSimpArgs false
open Go.ChangeShapes Go.WideShapes Go.RowKit Go.Proofs.YtokcgacehdgkcaaGreatDoor.Eng Go.Proofs.YtokcgacehdgkcaaGreatDoor.Eng.Er Go.Proofs.YtokcgacehdgkcaaGreatDoor.Eng.A

theorem own : ownKnob Tryz.prog.godebug = none := by kernel_rfl
theorem laidOut : laidOutB Tryz.prog = true := by kernel_rfl
theorem et : Tryz.prog.globalNamed "errors.errorType" = some 0 := by kernel_rfl
theorem rt : (Tryz.prog.cutTypes.find? (·.1 == "internal/reflectlite.rtype")).map (·.2) = some 217 := by kernel_rfl
theorem oneRow : ((List.range 309).filter fun t => Tryz.prog.rowNamed t [101, 114, 114, 111, 114]) = [33] := by kernel_rfl
theorem size : Tryz.prog.types.size = 309 := by kernel_rfl

abbrev dat : List (String × DataW Unit) := [("math/bits.deBruijn32tab", Rows.laid_math_bits_deBruijn32tab), ("math/bits.deBruijn64tab", Rows.laid_math_bits_deBruijn64tab), ("internal/strconv.uint64pow10", Rows.laid_internal_strconv_uint64pow10), ("strconv.ErrRange", Rows.laid_strconv_ErrRange), ("strconv.ErrSyntax", Rows.laid_strconv_ErrSyntax)]
def lst : List (String × DataW Unit) := [("math/bits.deBruijn32tab", Rows.laid_math_bits_deBruijn32tab), ("math/bits.deBruijn64tab", Rows.laid_math_bits_deBruijn64tab), ("internal/strconv.uint64pow10", Rows.laid_internal_strconv_uint64pow10), ("errors.errorType", Rows.laid_errors_errorType), ("strconv.ErrRange", Rows.laid_strconv_ErrRange), ("strconv.ErrSyntax", Rows.laid_strconv_ErrSyntax)]
theorem lst_dat : (lst.filter fun x => x.2.handleName?.isNone) = dat := by kernel_rfl
theorem lst_han : (lst.filter fun x => x.2.handleName?.isSome) = [("errors.errorType", Rows.laid_errors_errorType)] := by kernel_rfl

theorem handle_of {W : World} (h' : handlesMet Tryz.prog [("errors.errorType", Rows.laid_errors_errorType)] W) : W.cell? ⟨0, 0, none⟩ = some GVal := by
  obtain ⟨name, u, ty, e1, e2, e3, e4, e5⟩ := h' _ (List.mem_singleton.2 rfl)
  have en : name = [101, 114, 114, 111, 114] := (Option.some.inj e1).symm
  subst en
  obtain rfl := Option.some.inj (rt.symm.trans e2)
  have hm : ty ∈ (List.range 309).filter fun t => Tryz.prog.rowNamed t [101, 114, 114, 111, 114] := List.mem_filter.2 ⟨List.mem_range.2 (by rw [← size]; exact e3), e4⟩
  rw [oneRow] at hm
  obtain rfl := List.mem_singleton.1 hm
  have hh : typeHandle Tryz.prog 33 = .pointer (some ⟨7, 33, none⟩) := by kernel_rfl
  rw [hh] at e5
  have := World.var?_cell et e5 0
  show W.cell? _ = _
  simpa [GVal] using this

theorem star : "*" ++ "errors.errorString" = "*errors.errorString" := by decide
theorem rowE (u : TypeId) (h : Tryz.prog.typeName? 3 u = some "*errors.errorString") : u = 261 :=
  typeName_ptr_named (nm := "errors.errorString") (by rw [star]; kernel_rfl) (by kernel_rfl) (by decide) u (by rw [star]; exact h)
theorem gS : Tryz.prog.globalNamed "strconv.ErrSyntax" = some 2 := by kernel_rfl
theorem gR : Tryz.prog.globalNamed "strconv.ErrRange" = some 3 := by kernel_rfl
theorem gP : Tryz.prog.globalNamed "internal/strconv.uint64pow10" = some 4 := by kernel_rfl
theorem powD : (Rows.laid_internal_strconv_uint64pow10 : DataW Unit) = Lib.tabData .u64 Lib.pow10Tab := by kernel_rfl

/-- What a walk needs of the six. -/
theorem cells_of_laid {W : World} (h : laidMetH Tryz.prog lst W) : ∃ L : List (Nat × Nat × Value), (∀ x ∈ L, W.cell? ⟨x.1, x.2.1, none⟩ = some x.2.2) ∧ StC (S0L L) := by
  obtain ⟨hd, hh⟩ := laidMetH_iff.1 h
  rw [lst_dat] at hd
  rw [lst_han] at hh
  have hg := handle_of hh
  have h3 := hd.tail.tail
  rw [powD] at h3
  have hT := Lib.tabIs_of_head gP (t := 255) (e := 22) (n := 20) (by kernel_rfl) Tryz.underlying255 Tryz.underlying22 (by kernel_rfl) (by kernel_rfl) h3
  obtain ⟨a1, s1, v1, _⟩ := laid_sentinel h3.tail gR (ti := 33) (by kernel_rfl) Tryz.underlying33 rowE Tryz.underlying261 Tryz.underlying263 rfl rfl Tryz.underlying9 (by kernel_rfl) (by kernel_rfl)
  obtain ⟨a2, s2, v2, _⟩ := laid_sentinel h3.tail.tail gS (ti := 33) (by kernel_rfl) Tryz.underlying33 rowE Tryz.underlying261 Tryz.underlying263 rfl rfl Tryz.underlying9 (by kernel_rfl) (by kernel_rfl)
  have c1 := World.var?_cell gR v1 0
  have c2 := World.var?_cell gS v2 0
  have ct : ∀ i, i < 20 → W.cell? ⟨4, i, none⟩ = some (.int .u64 ((10 ^ i : Nat) : Int)) := fun i hi => by
    rw [hT.cell gP i (by rw [Lib.pow10Tab_length]; omega), Lib.pow10Tab_at _ (by omega)]
  refine ⟨(0, 0, GVal) :: (2, 0, .iface 261 (.pointer (some a2))) :: (3, 0, .iface 261 (.pointer (some a1))) :: (List.range 20).map (fun i => (4, i, .int .u64 ((10 ^ i : Nat) : Int))), ?_, ?_⟩
  · intro x hx
    simp only [List.mem_cons, List.mem_map, List.mem_range] at hx
    rcases hx with rfl | rfl | rfl | ⟨i, hi, rfl⟩
    · exact hg
    · simpa using c2
    · simpa using c1
    · exact ct i hi
  · refine ⟨fun g w hs => (hs (0, 0, GVal) (by simp)).2, fun g w hs => ⟨fun i hi => (hs (4, i, .int .u64 ((10 ^ i : Nat) : Int)) (by simp; exact ⟨i, hi, rfl, rfl⟩)).2, ⟨_, _, (hs (2, 0, .iface 261 (.pointer (some a2))) (by simp)).2⟩, ⟨_, _, (hs (3, 0, .iface 261 (.pointer (some a1))) (by simp)).2⟩⟩⟩

/-- A world that meets the condition: the settled one, the variables' cells laid. -/
noncomputable def world0 (os : Os) : World :=
  let w0 := World.holding Tryz.prog os ⟨#[], #[], []⟩
  { w0 with heap := w0.heap.modify 0 fun
      | .cells _ t frozen => .cells #[.iface 217 (.agg #[.pointer (some ⟨7, 33, none⟩)])] t frozen
      | o => o }
noncomputable def laidWorld (os : Os) : World := (world0 os).layVars Tryz.prog dat
theorem laidWorld_os (os : Os) : (laidWorld os).os = os := (World.layVars_os _ _ _).trans rfl
theorem laidWorld_met (os : Os) (args : Array Value) : laidMetH Tryz.prog lst ((laidWorld os).forCall (fun _ _ => 0) ⟨#[], args, []⟩).memory := by
  have e1 : (dat.filter fun x => (dat.map (·.1)).contains x.1) = dat := List.filter_eq_self.2 fun x hx => List.contains_iff_mem.2 (List.mem_map.2 ⟨x, hx, rfl⟩)
  have e2 : (dat.filter fun x => !(dat.map (·.1)).contains x.1) = [] := List.filter_eq_nil_iff.2 fun x hx => by rw [List.contains_iff_mem.2 (List.mem_map.2 ⟨x, hx, rfl⟩)]; simp
  have h : laidMet Tryz.prog dat (laidWorld os) := laidMet_layVars (w0 := world0 os) (dat.map (·.1)) [] (by rw [e1]; rfl) (by rw [e1]; kernel_rfl) (by rw [e1]; kernel_rfl) (by rw [e2]; exact LaidIn.none)
  have h' : laidMet Tryz.prog dat ((laidWorld os).forCall (fun _ _ => 0) ⟨#[], args, []⟩).memory := h.of_heap (by simp [World.memory, World.forCall, Input.heap])
  exact laidMetH_of_parts (by rw [lst_dat]; exact h') (by rw [lst_han]; kernel_rfl)

end Go.Proofs.YtokcgacehdgkcaaGreatDoor.Laid
