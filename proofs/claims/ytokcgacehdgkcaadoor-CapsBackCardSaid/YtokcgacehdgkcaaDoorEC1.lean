/- EC1: what functions do, walked; used by the laws of this seat. -/
import Derived.Test.YtokcgacehdgkcaaDoorEW2
import Derived.Test.YtokcgacehdgkcaaDoorEngX4
import Derived.Test.YtokcgacehdgkcaaDoorEngX3
import Derived.Test.YtokcgacehdgkcaaDoorEXB
import Derived.Lib.ConvBytes
import Derived.Shelf.Strconv.Itoa3
import Derived.Shelf.Pu.ParseUintPublic10
import Derived.Shelf.Strings.Search2
import Derived.Stop.LaidErr
import Derived.RegionTactic
import Derived.BigCall
import Derived.BigGuard
namespace Go.Proofs.YtokcgacehdgkcaaDoor.Eng
open Go.RowKit
theorem zLr {p : Pd} : p.le p := Pd.le_refl _
theorem zPb {v : Value} {n m : Nat} : (pl v).Bnd n m := pl_bnd _ _ _
theorem zNb {n m : Nat} (h : Nat.ble n m = true) : n ≤ m := Nat.le_of_ble_eq_true h
theorem zbc {p : Pd} {ps : List Pd} {n m : Nat} (h : p.Bnd n m) (h2 : ∀ q ∈ ps, q.Bnd n m) : ∀ q ∈ p :: ps, q.Bnd n m := bnd_cons h h2
set_option linter.defProp false in
def znz := And.intro @na (And.intro @nb (And.intro @nc (And.intro @nd (And.intro @nf (And.intro @ng (And.intro @nh (And.intro @ni (And.intro @nj @nk))))))))
end Go.Proofs.YtokcgacehdgkcaaDoor.Eng
namespace Go.Proofs.YtokcgacehdgkcaaDoor.Eng.A
set_option linter.unusedVariables false
set_option linter.unusedSimpArgs false
open Go.RowKit Go.Proofs.YtokcgacehdgkcaaDoor.Plain Go.Proofs.YtokcgacehdgkcaaDoor.Eng Go.Proofs.YtokcgacehdgkcaaDoor.Eng.Pk Go.Proofs.YtokcgacehdgkcaaDoor.Eng.Rd




theorem errV_eql (o : Option Int) (w : World) : (binOp .eql 28 (errV o) .nilIface).run Tryd.prog w = .ok (.bool o.isNone) w := by cases o <;> simp [errV, go_sem]
theorem errV_geql (o : Option Int) (w : World) (x : Operand) : (eqGuard .eql 28 x (.const .nilIface) (errV o) .nilIface).run Tryd.prog w = .ok () w := by cases o <;> simp [errV, go_sem]
theorem beq_dec (a b : Int) : (a == b) = decide (a = b) := rfl

structure Stx where
  From : Int
  Many : Int
  deriving DecidableEq
instance : Inhabited Stx := ⟨⟨0, 0⟩⟩
end Go.Proofs.YtokcgacehdgkcaaDoor.Eng.A

namespace Go.Proofs.YtokcgacehdgkcaaDoor.Eng.A
set_option linter.unusedVariables false
set_option linter.unusedSimpArgs false
open Go.RowKit Go.Proofs.YtokcgacehdgkcaaDoor.Plain Go.Proofs.YtokcgacehdgkcaaDoor.Eng Go.Proofs.YtokcgacehdgkcaaDoor.Eng.Pk Go.Proofs.YtokcgacehdgkcaaDoor.Eng.Rd



open Go.Shelf
def cLen_ren : Go.Shelf.Ren := ⟨fun | 129 => 160 | n => n, fun | 53 => 56 | 3 => 3 | 4 => 4 | 46 => 211 | 5 => 5 | 9 => 9 | n => n, fun | n => n⟩
theorem cLen : Go.Proofs.Lays.n129 Tryd.prog cLen_ren := {
  mixed := by kernel_rfl
  f129 := Tryd.func160.trans (congrArg some (by kernel_rfl))
  t3 := Tryd.underlying3
  a3 := Tryd.isAgg3
  z3 := Tryd.sizeOf3
  v3 := Tryd.zeroValue3
  t4 := Tryd.underlying4
  a4 := Tryd.isAgg4
  z4 := Tryd.sizeOf4
  v4 := Tryd.zeroValue4
  t5 := Tryd.underlying5
  a5 := Tryd.isAgg5
  z5 := Tryd.sizeOf5
  v5 := Tryd.zeroValue5
  t9 := Tryd.underlying9
  a9 := Tryd.isAgg9
  z9 := Tryd.sizeOf9
  v9 := Tryd.zeroValue9
  t46 := Tryd.underlying211
  a46 := Tryd.isAgg211
  z46 := Tryd.sizeOf211
  v46 := Tryd.zeroValue211
  t53 := Tryd.underlying56
  a53 := Tryd.isAgg56
  z53 := Tryd.sizeOf56
  v53 := Tryd.zeroValue56 }
def cLog_ren : Go.Shelf.Ren := ⟨fun | 317 => 210 | n => n, fun | 3 => 3 | 46 => 211 | n => n, fun | n => n⟩
theorem cLog : Go.Proofs.Lays.n317 Tryd.prog cLog_ren := {
  mixed := by kernel_rfl
  f317 := Tryd.func210.trans (congrArg some (by kernel_rfl))
  t3 := Tryd.underlying3
  a3 := Tryd.isAgg3
  z3 := Tryd.sizeOf3
  v3 := Tryd.zeroValue3
  t46 := Tryd.underlying211
  a46 := Tryd.isAgg211
  z46 := Tryd.sizeOf211
  v46 := Tryd.zeroValue211 }
def cB2_ren : Go.Shelf.Ren := ⟨fun | 318 => 211 | n => n, fun | 3 => 3 | 4 => 4 | n => n, fun | n => n⟩
theorem cB2 : Go.Proofs.Lays.n318 Tryd.prog cB2_ren := {
  mixed := by kernel_rfl
  f318 := Tryd.func211.trans (congrArg some (by kernel_rfl))
  t3 := Tryd.underlying3
  a3 := Tryd.isAgg3
  z3 := Tryd.sizeOf3
  v3 := Tryd.zeroValue3
  t4 := Tryd.underlying4
  a4 := Tryd.isAgg4
  z4 := Tryd.sizeOf4
  v4 := Tryd.zeroValue4 }
def cSmall_ren : Go.Shelf.Ren := ⟨fun | 283 => 191 | n => n, fun | 3 => 3 | 9 => 9 | 4 => 4 | n => n, fun | n => n⟩
theorem cSmall : Go.Proofs.Lays.n283 Tryd.prog cSmall_ren := {
  mixed := by kernel_rfl
  f283 := Tryd.func191.trans (congrArg some (by kernel_rfl))
  t3 := Tryd.underlying3
  a3 := Tryd.isAgg3
  z3 := Tryd.sizeOf3
  v3 := Tryd.zeroValue3
  t4 := Tryd.underlying4
  a4 := Tryd.isAgg4
  z4 := Tryd.sizeOf4
  v4 := Tryd.zeroValue4
  t9 := Tryd.underlying9
  a9 := Tryd.isAgg9
  z9 := Tryd.sizeOf9
  v9 := Tryd.zeroValue9 }
def cFmt_ren : Go.Shelf.Ren := ⟨fun | 285 => 193 | n => n, fun | 37 => 26 | 53 => 56 | 3 => 3 | 4 => 4 | 51 => 266 | 9 => 9 | 5 => 5 | 0 => 0 | n => n, fun | n => n⟩
theorem cFmt : Go.Proofs.Lays.n285 Tryd.prog cFmt_ren := {
  mixed := by kernel_rfl
  f285 := Tryd.func193.trans (congrArg some (by kernel_rfl))
  t0 := Tryd.underlying0
  a0 := Tryd.isAgg0
  z0 := Tryd.sizeOf0
  v0 := Tryd.zeroValue0
  t3 := Tryd.underlying3
  a3 := Tryd.isAgg3
  z3 := Tryd.sizeOf3
  v3 := Tryd.zeroValue3
  t4 := Tryd.underlying4
  a4 := Tryd.isAgg4
  z4 := Tryd.sizeOf4
  v4 := Tryd.zeroValue4
  t5 := Tryd.underlying5
  a5 := Tryd.isAgg5
  z5 := Tryd.sizeOf5
  v5 := Tryd.zeroValue5
  t9 := Tryd.underlying9
  a9 := Tryd.isAgg9
  z9 := Tryd.sizeOf9
  v9 := Tryd.zeroValue9
  t37 := Tryd.underlying26
  a37 := Tryd.isAgg26
  z37 := Tryd.sizeOf26
  v37 := Tryd.zeroValue26
  t51 := Tryd.underlying266
  a51 := Tryd.isAgg266
  z51 := Tryd.sizeOf266
  v51 := Tryd.zeroValue266
  t53 := Tryd.underlying56
  a53 := Tryd.isAgg56
  z53 := Tryd.sizeOf56
  v53 := Tryd.zeroValue56 }
def cItoa_ren : Go.Shelf.Ren := ⟨fun | 171 => 126 | 243 => 161 | 246 => 190 | 283 => 191 | 284 => 192 | 285 => 193 | 286 => 194 | 129 => 160 | 317 => 210 | 318 => 211 | 319 => 212 | 320 => 213 | 337 => 233 | 338 => 234 | n => n, fun | 3 => 3 | 9 => 9 | 2 => 2 | 4 => 4 | 171 => 293 | 0 => 0 | 53 => 56 | 37 => 26 | 5 => 5 | 173 => 295 | 212 => 315 | 51 => 266 | 20 => 20 | 213 => 316 | 46 => 211 | 232 => 337 | 233 => 142 | n => n, fun | 17 => 4 | 18 => 5 | 19 => 6 | n => n⟩
theorem cItoa : Go.Proofs.Lays.n171 Tryd.prog cItoa_ren := {
  mixed := by kernel_rfl
  f129 := Tryd.func160.trans (congrArg some (by kernel_rfl))
  f171 := Tryd.func126.trans (congrArg some (by kernel_rfl))
  f243 := Tryd.func161.trans (congrArg some (by kernel_rfl))
  f246 := Tryd.func190.trans (congrArg some (by kernel_rfl))
  f283 := Tryd.func191.trans (congrArg some (by kernel_rfl))
  f284 := Tryd.func192.trans (congrArg some (by kernel_rfl))
  f285 := Tryd.func193.trans (congrArg some (by kernel_rfl))
  f286 := Tryd.func194.trans (congrArg some (by kernel_rfl))
  f317 := Tryd.func210.trans (congrArg some (by kernel_rfl))
  f318 := Tryd.func211.trans (congrArg some (by kernel_rfl))
  f319 := Tryd.func212.trans (congrArg some (by kernel_rfl))
  f320 := Tryd.func213.trans (congrArg some (by kernel_rfl))
  f337 := Tryd.func233.trans (congrArg some (by kernel_rfl))
  f338 := Tryd.func234.trans (congrArg some (by kernel_rfl))
  t0 := Tryd.underlying0
  a0 := Tryd.isAgg0
  z0 := Tryd.sizeOf0
  v0 := Tryd.zeroValue0
  t2 := Tryd.underlying2
  a2 := Tryd.isAgg2
  z2 := Tryd.sizeOf2
  v2 := Tryd.zeroValue2
  t3 := Tryd.underlying3
  a3 := Tryd.isAgg3
  z3 := Tryd.sizeOf3
  v3 := Tryd.zeroValue3
  t4 := Tryd.underlying4
  a4 := Tryd.isAgg4
  z4 := Tryd.sizeOf4
  v4 := Tryd.zeroValue4
  t5 := Tryd.underlying5
  a5 := Tryd.isAgg5
  z5 := Tryd.sizeOf5
  v5 := Tryd.zeroValue5
  t9 := Tryd.underlying9
  a9 := Tryd.isAgg9
  z9 := Tryd.sizeOf9
  v9 := Tryd.zeroValue9
  t20 := Tryd.underlying20
  a20 := Tryd.isAgg20
  z20 := Tryd.sizeOf20
  v20 := Tryd.zeroValue20
  t37 := Tryd.underlying26
  a37 := Tryd.isAgg26
  z37 := Tryd.sizeOf26
  v37 := Tryd.zeroValue26
  t46 := Tryd.underlying211
  a46 := Tryd.isAgg211
  z46 := Tryd.sizeOf211
  v46 := Tryd.zeroValue211
  t51 := Tryd.underlying266
  a51 := Tryd.isAgg266
  z51 := Tryd.sizeOf266
  v51 := Tryd.zeroValue266
  t53 := Tryd.underlying56
  a53 := Tryd.isAgg56
  z53 := Tryd.sizeOf56
  v53 := Tryd.zeroValue56
  t171 := Tryd.underlying293
  a171 := Tryd.isAgg293
  z171 := Tryd.sizeOf293
  v171 := Tryd.zeroValue293
  t173 := Tryd.underlying295
  a173 := Tryd.isAgg295
  z173 := Tryd.sizeOf295
  v173 := Tryd.zeroValue295
  t212 := Tryd.underlying315
  a212 := Tryd.isAgg315
  z212 := Tryd.sizeOf315
  v212 := Tryd.zeroValue315
  t213 := Tryd.underlying316
  a213 := Tryd.isAgg316
  z213 := Tryd.sizeOf316
  t232 := Tryd.underlying337
  a232 := Tryd.isAgg337
  z232 := Tryd.sizeOf337
  v232 := Tryd.zeroValue337
  t233 := Tryd.underlying142
  a233 := Tryd.isAgg142
  z233 := Tryd.sizeOf142
  v233 := Tryd.zeroValue142
  g17 := by kernel_rfl
  g18 := by kernel_rfl
  g19 := by kernel_rfl }
def cIdx_ren : Go.Shelf.Ren := ⟨fun | 219 => 163 | 217 => 195 | 225 => 196 | 224 => 197 | 267 => 198 | 266 => 214 | 314 => 215 | n => n, fun | 9 => 9 | 3 => 3 | 4 => 4 | 5 => 5 | 46 => 211 | 146 => 317 | 51 => 266 | n => n, fun | 1 => 1 | n => n⟩
theorem cIdx : Go.Proofs.Lays.n219 Tryd.prog cIdx_ren := {
  mixed := by kernel_rfl
  f217 := Tryd.func195.trans (congrArg some (by kernel_rfl))
  f219 := Tryd.func163.trans (congrArg some (by kernel_rfl))
  f224 := Tryd.func197.trans (congrArg some (by kernel_rfl))
  f225 := Tryd.func196.trans (congrArg some (by kernel_rfl))
  f266 := Tryd.func214.trans (congrArg some (by kernel_rfl))
  f267 := Tryd.func198.trans (congrArg some (by kernel_rfl))
  f314 := Tryd.func215.trans (congrArg some (by kernel_rfl))
  t3 := Tryd.underlying3
  a3 := Tryd.isAgg3
  z3 := Tryd.sizeOf3
  v3 := Tryd.zeroValue3
  t4 := Tryd.underlying4
  a4 := Tryd.isAgg4
  z4 := Tryd.sizeOf4
  v4 := Tryd.zeroValue4
  t5 := Tryd.underlying5
  a5 := Tryd.isAgg5
  z5 := Tryd.sizeOf5
  v5 := Tryd.zeroValue5
  t9 := Tryd.underlying9
  a9 := Tryd.isAgg9
  z9 := Tryd.sizeOf9
  v9 := Tryd.zeroValue9
  t46 := Tryd.underlying211
  a46 := Tryd.isAgg211
  z46 := Tryd.sizeOf211
  v46 := Tryd.zeroValue211
  t51 := Tryd.underlying266
  a51 := Tryd.isAgg266
  z51 := Tryd.sizeOf266
  v51 := Tryd.zeroValue266
  t146 := Tryd.underlying317
  a146 := Tryd.isAgg317
  z146 := Tryd.sizeOf317
  v146 := Tryd.zeroValue317
  g1 := by kernel_rfl }
def cPu_ren : Go.Shelf.Ren := ⟨fun | 14 => 89 | 16 => 129 | 17 => 130 | 19 => 164 | 20 => 165 | 21 => 166 | 22 => 167 | 23 => 168 | 24 => 169 | 25 => 199 | 27 => 126 | 26 => 200 | 28 => 161 | 29 => 190 | 30 => 191 | 31 => 192 | 32 => 193 | 33 => 194 | 35 => 160 | 34 => 210 | 36 => 211 | 37 => 212 | 38 => 213 | 39 => 233 | 40 => 234 | n => n, fun | 9 => 9 | 3 => 3 | 22 => 56 | 24 => 28 | 25 => 119 | 4 => 4 | 34 => 269 | 5 => 5 | 36 => 211 | 37 => 26 | 0 => 0 | 39 => 272 | 21 => 21 | 44 => 301 | 47 => 319 | 50 => 322 | 48 => 320 | 2 => 2 | 52 => 293 | 55 => 295 | 59 => 315 | 60 => 266 | 20 => 20 | 61 => 316 | 65 => 337 | 66 => 142 | 67 => 166 | n => n, fun | 0 => 2 | 1 => 3 | 2 => 4 | 3 => 5 | 4 => 6 | n => n⟩
theorem cPu : Go.Proofs.LaysPu.n14 Tryd.prog cPu_ren := {
  mixed := by kernel_rfl
  f14 := Tryd.func89.trans (congrArg some (by kernel_rfl))
  f16 := Tryd.func129.trans (congrArg some (by kernel_rfl))
  f17 := Tryd.func130.trans (congrArg some (by kernel_rfl))
  f19 := Tryd.func164.trans (congrArg some (by kernel_rfl))
  f20 := Tryd.func165.trans (congrArg some (by kernel_rfl))
  f21 := Tryd.func166.trans (congrArg some (by kernel_rfl))
  f22 := Tryd.func167.trans (congrArg some (by kernel_rfl))
  f23 := Tryd.func168.trans (congrArg some (by kernel_rfl))
  f24 := Tryd.func169.trans (congrArg some (by kernel_rfl))
  f25 := Tryd.func199.trans (congrArg some (by kernel_rfl))
  f26 := Tryd.func200.trans (congrArg some (by kernel_rfl))
  f27 := Tryd.func126.trans (congrArg some (by kernel_rfl))
  f28 := Tryd.func161.trans (congrArg some (by kernel_rfl))
  f29 := Tryd.func190.trans (congrArg some (by kernel_rfl))
  f30 := Tryd.func191.trans (congrArg some (by kernel_rfl))
  f31 := Tryd.func192.trans (congrArg some (by kernel_rfl))
  f32 := Tryd.func193.trans (congrArg some (by kernel_rfl))
  f33 := Tryd.func194.trans (congrArg some (by kernel_rfl))
  f34 := Tryd.func210.trans (congrArg some (by kernel_rfl))
  f35 := Tryd.func160.trans (congrArg some (by kernel_rfl))
  f36 := Tryd.func211.trans (congrArg some (by kernel_rfl))
  f37 := Tryd.func212.trans (congrArg some (by kernel_rfl))
  f38 := Tryd.func213.trans (congrArg some (by kernel_rfl))
  f39 := Tryd.func233.trans (congrArg some (by kernel_rfl))
  f40 := Tryd.func234.trans (congrArg some (by kernel_rfl))
  t0 := Tryd.underlying0
  a0 := Tryd.isAgg0
  z0 := Tryd.sizeOf0
  v0 := Tryd.zeroValue0
  i0 := by kernel_rfl
  t2 := Tryd.underlying2
  a2 := Tryd.isAgg2
  z2 := Tryd.sizeOf2
  v2 := Tryd.zeroValue2
  i2 := by kernel_rfl
  t3 := Tryd.underlying3
  a3 := Tryd.isAgg3
  z3 := Tryd.sizeOf3
  v3 := Tryd.zeroValue3
  i3 := by kernel_rfl
  t4 := Tryd.underlying4
  a4 := Tryd.isAgg4
  z4 := Tryd.sizeOf4
  v4 := Tryd.zeroValue4
  i4 := by kernel_rfl
  t5 := Tryd.underlying5
  a5 := Tryd.isAgg5
  z5 := Tryd.sizeOf5
  v5 := Tryd.zeroValue5
  i5 := by kernel_rfl
  t9 := Tryd.underlying9
  a9 := Tryd.isAgg9
  z9 := Tryd.sizeOf9
  v9 := Tryd.zeroValue9
  i9 := by kernel_rfl
  t20 := Tryd.underlying20
  a20 := Tryd.isAgg20
  z20 := Tryd.sizeOf20
  v20 := Tryd.zeroValue20
  i20 := by kernel_rfl
  t21 := Tryd.underlying21
  a21 := Tryd.isAgg21
  z21 := Tryd.sizeOf21
  v21 := Tryd.zeroValue21
  i21 := by kernel_rfl
  t22 := Tryd.underlying56
  a22 := Tryd.isAgg56
  z22 := Tryd.sizeOf56
  v22 := Tryd.zeroValue56
  i22 := by kernel_rfl
  t24 := Tryd.underlying28
  a24 := Tryd.isAgg28
  z24 := Tryd.sizeOf28
  v24 := Tryd.zeroValue28
  i24 := by kernel_rfl
  t25 := Tryd.underlying119
  a25 := Tryd.isAgg119
  z25 := Tryd.sizeOf119
  v25 := Tryd.zeroValue119
  i25 := by kernel_rfl
  t34 := Tryd.underlying269
  a34 := Tryd.isAgg269
  z34 := Tryd.sizeOf269
  v34 := Tryd.zeroValue269
  i34 := by kernel_rfl
  c34 := by kernel_rfl
  t36 := Tryd.underlying211
  a36 := Tryd.isAgg211
  z36 := Tryd.sizeOf211
  v36 := Tryd.zeroValue211
  i36 := by kernel_rfl
  t37 := Tryd.underlying26
  a37 := Tryd.isAgg26
  z37 := Tryd.sizeOf26
  v37 := Tryd.zeroValue26
  i37 := by kernel_rfl
  t39 := Tryd.underlying272
  a39 := Tryd.isAgg272
  z39 := Tryd.sizeOf272
  v39 := Tryd.zeroValue272
  i39 := by kernel_rfl
  t44 := Tryd.underlying301
  a44 := Tryd.isAgg301
  z44 := Tryd.sizeOf301
  v44 := Tryd.zeroValue301
  i44 := by kernel_rfl
  t47 := Tryd.underlying319
  a47 := Tryd.isAgg319
  z47 := Tryd.sizeOf319
  v47 := Tryd.zeroValue319
  i47 := by kernel_rfl
  t48 := Tryd.underlying320
  a48 := Tryd.isAgg320
  z48 := Tryd.sizeOf320
  v48 := Tryd.zeroValue320
  i48 := by kernel_rfl
  t50 := Tryd.underlying322
  a50 := Tryd.isAgg322
  z50 := Tryd.sizeOf322
  v50 := Tryd.zeroValue322
  i50 := by kernel_rfl
  t52 := Tryd.underlying293
  a52 := Tryd.isAgg293
  z52 := Tryd.sizeOf293
  v52 := Tryd.zeroValue293
  i52 := by kernel_rfl
  t55 := Tryd.underlying295
  a55 := Tryd.isAgg295
  z55 := Tryd.sizeOf295
  v55 := Tryd.zeroValue295
  i55 := by kernel_rfl
  t59 := Tryd.underlying315
  a59 := Tryd.isAgg315
  z59 := Tryd.sizeOf315
  v59 := Tryd.zeroValue315
  i59 := by kernel_rfl
  t60 := Tryd.underlying266
  a60 := Tryd.isAgg266
  z60 := Tryd.sizeOf266
  v60 := Tryd.zeroValue266
  i60 := by kernel_rfl
  t61 := Tryd.underlying316
  a61 := Tryd.isAgg316
  z61 := Tryd.sizeOf316
  t65 := Tryd.underlying337
  a65 := Tryd.isAgg337
  z65 := Tryd.sizeOf337
  v65 := Tryd.zeroValue337
  i65 := by kernel_rfl
  t66 := Tryd.underlying142
  a66 := Tryd.isAgg142
  z66 := Tryd.sizeOf142
  v66 := Tryd.zeroValue142
  i66 := by kernel_rfl
  t67 := Tryd.underlying166
  a67 := Tryd.isAgg166
  z67 := Tryd.sizeOf166
  v67 := Tryd.zeroValue166
  i67 := by kernel_rfl
  g0 := by kernel_rfl
  m0 := by kernel_rfl
  g1 := by kernel_rfl
  m1 := by kernel_rfl
  g2 := by kernel_rfl
  m2 := by kernel_rfl
  g3 := by kernel_rfl
  m3 := by kernel_rfl
  g4 := by kernel_rfl
  m4 := by kernel_rfl }


open Go.Sort Go.Lib
theorem mixedC1 : Tryd.prog.follows .mixedOrders = true := by kernel_rfl
theorem len64_c (x : Int) (w : World) (h0 : 0 ≤ x) (h1 : x ≤ 18446744073709551615) : Calls Tryd.prog 160 #[.int .u64 x] w fun e w' => e = .returned (.int .i64 (Lib.bitLen x.toNat)) ∧ w' = w := Any.bits_Len64 cLen x w h0 h1
theorem log_c (x : Nat) (h : x ≤ 64) (w : World) : Calls Tryd.prog 210 #[.int .i64 x] w fun e w' => e = .returned (.int .i64 (Lib.l10 x)) ∧ w' = w := Any.internal_strconv_log10Pow2 cLog x h w
theorem b2_c (b : Bool) (w : World) : Calls Tryd.prog 211 #[.bool b] w fun e w' => e = .returned (.int .i64 (if b then 1 else 0)) ∧ w' = w := Any.internal_strconv_bool2_int cB2 b w
theorem small_c (i : Nat) (h : i < 100) (w : World) : Calls Tryd.prog 191 #[.int .i64 i] w fun e w' => e = .returned (.string ⟨(Lib.decDigits i).toArray⟩) ∧ w' = w := Any.internal_strconv_small cSmall i h w
/-- The table of the powers of ten, cell by cell. -/
def TabAt (w : World) : Prop := ∀ i, i < 20 → w.cell? ⟨4, i, none⟩ = some (.int .u64 ((10 ^ i : Nat) : Int))
set_option maxHeartbeats 3200000 in
set_option maxRecDepth 100000 in
theorem numDigits_c (u : Nat) (h1 : 1 ≤ u) (h2 : u < 18446744073709551616) (w : World) (hT : TabAt w) :
    Calls Tryd.prog 192 #[.int .u64 u] w fun e w' => e = .returned (.int .i64 (Lib.nDigits u)) ∧ w' = w := by
  have mixed := mixedC1
  obtain ⟨hnd, h19⟩ := Lib.numDigits_eq u h1 h2
  have hL : Lib.bitLen u ≤ 64 := Lib.bitLen_le u 64 (Nat.le_refl _) h2
  have hcell := hT (Lib.l10 (Lib.bitLen u)) (by omega)
  have hto : ((u : Int)).toNat = u := by omega
  generalize hq : Lib.l10 (Lib.bitLen u) = q at hnd h19 hcell
  generalize hTT : 10 ^ q = T at hnd hcell
  have h20 : q < 20 := by omega
  have Hnd := Lib.hid hnd
  clear hnd hT
  go_enter Tryd.func192, Tryd.ntmps192
  go_wp2_with (first
    | (with_reducible refine (len64_c _ _ (by omega) (by omega)).mono ?_; rintro e w' ⟨rfl, rfl⟩)
    | (with_reducible refine (log_c _ (by first | exact hL | (rw [hto]; exact hL)) _).mono ?_; rintro e w' ⟨rfl, rfl⟩)
    | (with_reducible refine (b2_c _ _).mono ?_; rintro e w' ⟨rfl, rfl⟩))
  all_goals go_ret
  all_goals (
    refine ⟨?_, rfl⟩
    have hnd := Hnd.out
    congr 2
    split at hnd <;> simp_all <;> omega)
theorem tabAt_alloc {w : World} (h : TabAt w) (o : Obj) : TabAt (w.alloc o) := fun i hi => Go.cell?_alloc_old o (h i hi)
theorem holds0 (w : World) (T : TypeId) (nd : Nat) (hs : nd ≤ 24) : Go.Sort.Holds (fun (b : UInt8) => Value.int .u8 (b.toNat : Int)) (w.alloc (.cells Lib.zeros24 T)) w.heap.size 0 (Array.replicate nd (0 : UInt8)) := fun j hj => by
  have hj' : j < nd := by simpa using hj
  refine ⟨?_, World.frozen?_alloc_new _ _ _ _⟩
  rw [World.cell?_alloc_new, Lib.zeros24_at _ (by omega), getElem!_pos _ j hj]
  simp
theorem fin0 (w : World) (o : Obj) (dk : Array UInt8) (k : Nat) : ∃ os, (putRow (fun (b : UInt8) => Value.int .u8 (b.toNat : Int)) (w.alloc o) w.heap.size 0 dk).drewN k = grow (w.drewN k) os := by
  rw [alloc_eq_grow]
  obtain ⟨os', _, e⟩ := putRow_grow_new (fun (b : UInt8) => Value.int .u8 (b.toNat : Int)) w #[o] w.heap.size 0 dk (Nat.le_refl _)
  exact ⟨os', by rw [e]; rfl⟩
theorem fmt_c (blk off cap : Nat) (u : Nat) (d : Array UInt8) (w : World) (hH : Go.Sort.Holds (fun (b : UInt8) => Value.int .u8 (b.toNat : Int)) w blk off d) (hu : u < 10 ^ d.size) (hu64 : u < 18446744073709551616) (hsz : d.size < 4611686018427387904) :
    Calls Tryd.prog 193 #[.slice (some ⟨blk, off, none⟩) d.size cap, .int .u64 u] w fun e w' =>
      e = .returned (.tuple #[]) ∧ ∃ (n v' : Nat) (dk : Array UInt8), w' = (putRow (fun (b : UInt8) => Value.int .u8 (b.toNat : Int)) w blk off dk).drewN n ∧ FmtInv d.size u 0 v' dk := Any.internal_strconv_formatBase10 cFmt blk off cap u d w hH hu hu64 hsz
set_option maxHeartbeats 3200000 in
set_option maxRecDepth 100000 in
theorem fmtUint_c (u : Nat) (hu64 : u < 18446744073709551616) (w : World) (hT : TabAt w) :
    Calls Tryd.prog 162 #[.int .u64 u, .int .i64 10] w fun e w' => e = .returned (.string ⟨(Lib.decDigits u).toArray⟩) ∧ ∃ k os, w' = grow (w.drewN k) os := by
  have mixed := mixedC1
  by_cases hs : u < 100
  · go_enter Tryd.func162, Tryd.ntmps162
    go_wp2_with (with_reducible refine (small_c u hs _).mono ?_; rintro e w' ⟨rfl, rfl⟩)
    go_ret
    exact ⟨rfl, 0, #[], by simp [World.drewN_zero]⟩
  · have hu1 : 1 ≤ u := by omega
    have hnd20 : Lib.nDigits u ≤ 20 := by have := Lib.numDigits_eq u hu1 hu64; split at this <;> omega
    have hal : Tryd.prog.arrayLen 293 = 24 := by kernel_rfl
    have hsl1 : ∀ W, (Instr.sliceAt 293 (.pointer (some ⟨w.heap.size, 0, none⟩)) none (some (.int .i64 (Lib.nDigits u : Int))) none).run Tryd.prog W = .ok (.slice (some ⟨w.heap.size, 0, none⟩) (Lib.nDigits u) 24) W := fun W => by
      rw [run_sliceAt_array_h W 293 ⟨w.heap.size, 0, none⟩ (by simp [Program.arrayLen, Program.elem, Tryd.underlying293]) .i64 (Lib.nDigits u : Int) (by omega) (by rw [hal]; omega)]
      go_simp
      try omega
    have hH0 := holds0 w 293 (Lib.nDigits u) (by omega)
    have hfmt := fmt_c w.heap.size 0 24 u (Array.replicate (Lib.nDigits u) 0) (w.alloc (.cells Lib.zeros24 293)) hH0 (by rw [Array.size_replicate]; exact Lib.lt_pow_nDigits u) hu64 (by rw [Array.size_replicate]; omega)
    rw [Array.size_replicate] at hfmt
    have HH0 := Lib.hid hH0
    clear hH0 hal
    go_enter Tryd.func162, Tryd.ntmps162
    go_wp2_with (with_reducible refine (numDigits_c u hu1 hu64 _ (tabAt_alloc hT _)).mono ?_; rintro e w' ⟨rfl, rfl⟩)
    refine hfmt.mono ?_
    rintro e w' ⟨rfl, k, v', dk, rfl, hF⟩
    have hcv : (convert 26 9 (.slice (some ⟨w.heap.size, 0, none⟩) (Lib.nDigits u) 24)).run Tryd.prog ((putRow (fun (b : UInt8) => Value.int .u8 (b.toNat : Int)) (w.alloc (.cells Lib.zeros24 293)) w.heap.size 0 dk).drewN k) = .ok (.string ⟨(Lib.decDigits u).toArray⟩) ((putRow (fun (b : UInt8) => Value.int .u8 (b.toNat : Int)) (w.alloc (.cells Lib.zeros24 293)) w.heap.size 0 dk).drewN k) := by
      have h := run_convert_bytes_back (P := Tryd.prog) ((putRow (fun (b : UInt8) => Value.int .u8 (b.toNat : Int)) (w.alloc (.cells Lib.zeros24 293)) w.heap.size 0 dk).drewN k) 26 9 5 ⟨w.heap.size, 0, none⟩ 24 (Lib.decDigits u) Tryd.underlying26 Tryd.underlying5 Tryd.underlying9 (fun j hj => by
        rw [Lib.row_is_numeral hF j hj, Lib.add_plain, World.cell?_drewN]
        exact cell?_putRow (fun (b : UInt8) => Value.int .u8 (b.toNat : Int)) _ w.heap.size 0 _ dk HH0.out (by rw [hF.size, Array.size_replicate]) j (by rw [hF.size]; rw [Lib.decDigits_length] at hj; exact hj))
      rw [Lib.decDigits_length] at h
      exact h
    go_wp2
    go_ret
    obtain ⟨os, eo⟩ := fin0 w (.cells Lib.zeros24 293) dk k
    exact ⟨rfl, k, os, eo⟩
set_option maxRecDepth 100000 in
theorem FmtUint_c (u : Nat) (hu64 : u < 18446744073709551616) (w : World) (hT : TabAt w) :
    Calls Tryd.prog 127 #[.int .u64 u, .int .i64 10] w fun e w' => e = .returned (.string ⟨(Lib.decDigits u).toArray⟩) ∧ ∃ k os, w' = grow (w.drewN k) os := by
  go_enter Tryd.func127, Tryd.ntmps127
  go_wp2_with (with_reducible refine (fmtUint_c u hu64 _ hT).mono ?_; rintro e w' ⟨rfl, k, os, rfl⟩)
  go_ret
  exact ⟨rfl, k, os, rfl⟩
theorem Itoa_c (i : Nat) (hi : i < 100) (w : World) : Calls Tryd.prog 126 #[.int .i64 i] w fun e w' => e = .returned (.string ⟨(Lib.decDigits i).toArray⟩) ∧ w' = w := Any.strconv_Itoa_small cItoa i hi w
theorem idx_c (s : ByteArray) (c : UInt8) (w : World) : Calls Tryd.prog 163 #[.string s, .string ⟨#[c]⟩] w fun e w' => e = .returned (.int .i64 (Lib.indexByte s.data.toList c)) ∧ w' = w := Any.stringslite_Index_one cIdx s c w
set_option maxHeartbeats 1000000 in
set_option maxRecDepth 100000 in
theorem cut_hit (s : ByteArray) (c : UInt8) (i : Nat) (hi : Lib.indexByte s.data.toList c = (i : Int)) (hl : i < s.size) (hs : s.size < 4294967281) (w : World) :
    Calls Tryd.prog 128 #[.string s, .string ⟨#[c]⟩] w fun e w' => e = .returned (.tuple #[.string (s.extract 0 i), .string (s.extract (i + 1) s.size), .bool true]) ∧ ∃ n, w' = w.drewN n := by
  have mixed := mixedC1
  have c2 : (↑i : Int) ≤ ↑s.size := by omega
  have c3 : (0 : Int) ≤ ↑i + 1 := by omega
  have c5 : (↑i + 1 : Int) ≤ 9223372036854775807 := by omega
  have c4 : (↑i + 1 : Int) ≤ ↑s.size := by omega
  go_enter Tryd.func128, Tryd.ntmps128
  go_wp2_with (with_reducible refine (idx_c s c _).mono ?_; rintro e w' ⟨rfl, rfl⟩; rw [hi])
  go_region_o
  go_wp2
  go_ret3
  exact ⟨rfl, 1, rfl⟩
set_option maxHeartbeats 1000000 in
set_option maxRecDepth 100000 in
theorem cut_miss (s : ByteArray) (c : UInt8) (hi : Lib.indexByte s.data.toList c = -1) (w : World) :
    Calls Tryd.prog 128 #[.string s, .string ⟨#[c]⟩] w fun e w' => e = .returned (.tuple #[.string s, .string ByteArray.empty, .bool false]) ∧ ∃ n, w' = w.drewN n := by
  have mixed := mixedC1
  go_enter Tryd.func128, Tryd.ntmps128
  go_wp2_with (with_reducible refine (idx_c s c _).mono ?_; rintro e w' ⟨rfl, rfl⟩; rw [hi])
  go_ret3
  exact ⟨rfl, 0, rfl⟩
/-- strings.Cut at one byte. -/
def cutB (s : ByteArray) (c : UInt8) : ByteArray × ByteArray × Bool :=
  if 0 ≤ Lib.indexByte s.data.toList c then (s.extract 0 (Lib.indexByte s.data.toList c).toNat, s.extract ((Lib.indexByte s.data.toList c).toNat + 1) s.size, true) else (s, ByteArray.empty, false)
set_option maxRecDepth 100000 in
theorem Cut_c (s : ByteArray) (c : UInt8) (hs : s.size < 4294967281) (w : World) :
    Calls Tryd.prog 88 #[.string s, .string ⟨#[c]⟩] w fun e w' => e = .returned (.tuple #[.string (cutB s c).1, .string (cutB s c).2.1, .bool (cutB s c).2.2]) ∧ ∃ n, w' = w.drewN n := by
  have hc : Calls Tryd.prog 128 #[.string s, .string ⟨#[c]⟩] w fun e w' => e = .returned (.tuple #[.string (cutB s c).1, .string (cutB s c).2.1, .bool (cutB s c).2.2]) ∧ ∃ n, w' = w.drewN n := by
    have hge := Lib.indexByte_ge s.data.toList c
    by_cases h : Lib.indexByte s.data.toList c = -1
    · rw [show cutB s c = (s, ByteArray.empty, false) by unfold cutB; rw [h]; rfl]
      exact cut_miss s c h w
    · obtain ⟨i, hi⟩ : ∃ i : Nat, Lib.indexByte s.data.toList c = (i : Int) := ⟨(Lib.indexByte s.data.toList c).toNat, by omega⟩
      have hl : i < s.size := by
        have := (List.getElem?_eq_some_iff.1 (Lib.indexByte_some hi).1).1
        simpa using this
      rw [show cutB s c = (s.extract 0 i, s.extract (i + 1) s.size, true) by unfold cutB; rw [hi, if_pos (by omega)]; simp]
      exact cut_hit s c i hi hl hs w
  revert hc
  generalize cutB s c = z
  intro hc
  go_enter Tryd.func88, Tryd.ntmps88
  go_wp2_with (with_reducible refine hc.mono ?_; rintro e w' ⟨rfl, n, rfl⟩)
  go_ret3
  exact ⟨rfl, n, rfl⟩

/-! ### The same in the engine's words -/
theorem below_bytes (w : World) (t : TypeId) (s : ByteArray) : Go.RowKit.Below w.heap.size w (Lib.bytesWorld w t s) :=
  ⟨rfl, rfl, rfl, by simp [Lib.bytesWorld, World.freeze, World.alloc, World.drew, -World.alloc_eq, -World.drew_eq], fun k hk => Lib.bytesWorld_at_old w t s k hk⟩
open Go.Proofs.YtokcgacehdgkcaaDoor.Eng.Er Go.Proofs.YtokcgacehdgkcaaDoor.Eng.Er2
def StC (s : St) : Prop := StGV s ∧ ∀ g w, s.stat.h g w .nilFunc → TabAt w ∧ (∃ t p, w.cell? ⟨2, 0, none⟩ = some (.iface t p)) ∧ (∃ t p, w.cell? ⟨3, 0, none⟩ = some (.iface t p))
theorem pds1 {g : G} {w : World} {p : Pd} {vs : List Value} (h : Pds g w [p] vs) : ∃ v, vs = [v] ∧ p.h g w v := by
  match vs, h with
  | [a], h => exact ⟨a, rfl, h.1⟩
  | [], h => exact h.elim
  | _ :: _ :: _, h => exact h.2.elim
theorem pds2 {g : G} {w : World} {p q : Pd} {vs : List Value} (h : Pds g w [p, q] vs) : ∃ v u, vs = [v, u] ∧ p.h g w v ∧ q.h g w u := by
  match vs, h with
  | [a, b], h => exact ⟨a, b, rfl, h.1, h.2.1⟩
  | [], h => exact h.elim
  | [_], h => exact h.2.elim
  | _ :: _ :: _ :: _, h => exact h.2.2.elim
theorem pds3 {g : G} {w : World} {p q r : Pd} {vs : List Value} (h : Pds g w [p, q, r] vs) : ∃ v u x, vs = [v, u, x] ∧ p.h g w v ∧ q.h g w u ∧ r.h g w x := by
  match vs, h with
  | [a, b, c], h => exact ⟨a, b, c, rfl, h.1, h.2.1, h.2.2.1⟩
  | [], h => exact h.elim
  | [_], h => exact h.2.elim
  | [_, _], h => exact h.2.2.elim
  | _ :: _ :: _ :: _ :: _, h => exact h.2.2.2.elim
def F_Itoa (n : Int) : Option ByteArray := grd (0 ≤ n ∧ n < 100) <| some ⟨(Lib.decDigits n.toNat).toArray⟩
theorem c_Itoa {n : Int} {R : ByteArray} (h0 : F_Itoa n = some R) : Pure Tryd.prog 126 [pl (.int .i64 n)] (pl (.string R)) := by
  intro s
  obtain ⟨hh0, k0⟩ := grd_some h0
  obtain rfl := some_of k0
  clear h0 k0
  obtain ⟨h1, h2⟩ := hh0
  obtain ⟨i, rfl⟩ : ∃ i : Nat, n = i := ⟨n.toNat, by omega⟩
  refine ac_below fun g w vs hp hs => ?_
  obtain ⟨v, rfl, hv⟩ := pds1 hp
  obtain rfl : v = .int .i64 (i : Int) := hv
  refine (Itoa_c i (by omega) w).mono ?_
  rintro e w' ⟨rfl, rfl⟩
  exact ⟨_, rfl, rfl, Go.RowKit.Below.refl _ _⟩
def F_FmtUint (u b : Int) : Option ByteArray := grd (0 ≤ u ∧ u < 18446744073709551616 ∧ b = 10) <| some ⟨(Lib.decDigits u.toNat).toArray⟩
theorem c_FmtUint {u b : Int} {R : ByteArray} {s : St} (h0 : F_FmtUint u b = some R) (hst : StC s) : AC Tryd.prog 127 [pl (.int .u64 u), pl (.int .i64 b)] s (pl (.string R)) s := by
  obtain ⟨hh0, k0⟩ := grd_some h0
  obtain rfl := some_of k0
  clear h0 k0
  obtain ⟨h1, h2, rfl⟩ := hh0
  obtain ⟨i, rfl⟩ : ∃ i : Nat, u = i := ⟨u.toNat, by omega⟩
  refine ac_below fun g w vs hp hs => ?_
  obtain ⟨v, z, rfl, hv, hz⟩ := pds2 hp
  obtain rfl : v = .int .u64 (i : Int) := hv
  obtain rfl : z = .int .i64 10 := hz
  refine (FmtUint_c i (by omega) w (hst.2 _ _ hs.st).1).mono ?_
  rintro e w' ⟨rfl, k, os, rfl⟩
  exact ⟨_, rfl, rfl, below_grow w k os⟩
def F_Cut (s p : ByteArray) : Option (ByteArray × ByteArray × Bool) := grd (s.size < 4294967281 ∧ p = ⟨#[46]⟩) <| some (cutB s 46)
theorem c_Cut {s0 p : ByteArray} {R : ByteArray × ByteArray × Bool} (h0 : F_Cut s0 p = some R) : Pure Tryd.prog 88 [pl (.string s0), pl (.string p)] (tup [pl (.string R.1), pl (.string R.2.1), pl (.bool R.2.2)]) := by
  intro s
  obtain ⟨hh0, k0⟩ := grd_some h0
  obtain rfl := some_of k0
  clear h0 k0
  obtain ⟨h1, rfl⟩ := hh0
  refine ac_below fun g w vs hp hs => ?_
  obtain ⟨v, z, rfl, hv, hz⟩ := pds2 hp
  obtain rfl : v = .string s0 := hv
  obtain rfl : z = .string ⟨#[46]⟩ := hz
  refine (Cut_c s0 46 h1 w).mono ?_
  rintro e w' ⟨rfl, n, rfl⟩
  exact ⟨_, rfl, ⟨_, rfl, rfl, rfl, rfl, trivial⟩, below_drewN w n⟩
/-- strconv.ParseUint at base 10: the number, and is there an error. -/
def puR (B : Nat) (s : ByteArray) : Int × Bool :=
  match Lib.parseUintB B s.data.toList with
  | .ok u => (u, false)
  | .range => ((2 ^ B - 1 : Nat), true)
  | _ => (0, true)
def F_ParseUint (s : ByteArray) (b n : Int) : Option (Int × Bool) := grd (s.size ≤ 281474976710656 ∧ b = 10 ∧ (n = 8 ∨ n = 64)) <| some (puR n.toNat s)
theorem c_ParseUint {s0 : ByteArray} {b n : Int} {R : Int × Bool} {s : St} (h0 : F_ParseUint s0 b n = some R) (hst : StC s) : AC Tryd.prog 89 [pl (.string s0), pl (.int .i64 b), pl (.int .i64 n)] s (tup [pl (.int .u64 R.1), errA R.2]) s := by
  obtain ⟨hh0, k0⟩ := grd_some h0
  obtain rfl := some_of k0
  clear h0 k0
  obtain ⟨h1, rfl, h2⟩ := hh0
  refine ac_below fun g w vs hp hs => ?_
  obtain ⟨v, z, y, rfl, hv, hz, hy⟩ := pds3 hp
  obtain rfl : v = .string s0 := hv
  obtain rfl : z = .int .i64 10 := hz
  obtain rfl : y = .int .i64 n := hy
  obtain ⟨_, ⟨t1, p1, hS⟩, ⟨t2, p2, hR⟩⟩ := hst.2 _ _ hs.st
  unfold puR
  rcases h2 with rfl | rfl
  · cases hc : Lib.parseUintB 8 s0.data.toList with
    | ok u =>
      refine (Any.strconv_ParseUint_10_at8_ok cPu s0 (by omega) u hc w).mono ?_
      rintro e w' ⟨rfl, hw⟩
      refine ⟨_, rfl, ⟨_, rfl, by simp [hc]; rfl, ⟨by simp [hc], by simp [hc]⟩, trivial⟩, ?_⟩
      rcases hw with rfl | rfl
      · exact Go.RowKit.Below.refl _ _
      · exact below_bytes w _ s0
    | range =>
      refine (Any.strconv_ParseUint_10_at8_range cPu s0 h1 hc _ w hR (.inr ⟨t2, p2, rfl⟩)).mono ?_
      rintro e w' ⟨N, rfl, _, _, hb⟩
      exact ⟨_, rfl, ⟨_, rfl, by simp [hc]; rfl, ⟨by simp [hc], by simp [hc]⟩, trivial⟩, hb⟩
    | _ =>
      refine (Any.strconv_ParseUint_10_at8_syntax cPu s0 h1 hc _ w hS (.inr ⟨t1, p1, rfl⟩)).mono ?_
      rintro e w' ⟨N, rfl, _, _, hb⟩
      exact ⟨_, rfl, ⟨_, rfl, by simp [hc]; rfl, ⟨by simp [hc], by simp [hc]⟩, trivial⟩, hb⟩
  · cases hc : Lib.parseUintB 64 s0.data.toList with
    | ok u =>
      refine (Any.strconv_ParseUint_10_at64_ok cPu s0 (by omega) u hc w).mono ?_
      rintro e w' ⟨rfl, hw⟩
      refine ⟨_, rfl, ⟨_, rfl, by simp [hc]; rfl, ⟨by simp [hc], by simp [hc]⟩, trivial⟩, ?_⟩
      rcases hw with rfl | rfl
      · exact Go.RowKit.Below.refl _ _
      · exact below_bytes w _ s0
    | range =>
      refine (Any.strconv_ParseUint_10_at64_range cPu s0 h1 hc _ w hR (.inr ⟨t2, p2, rfl⟩)).mono ?_
      rintro e w' ⟨N, rfl, _, _, hb⟩
      exact ⟨_, rfl, ⟨_, rfl, by simp [hc]; rfl, ⟨by simp [hc], by simp [hc]⟩, trivial⟩, hb⟩
    | _ =>
      refine (Any.strconv_ParseUint_10_at64_syntax cPu s0 h1 hc _ w hS (.inr ⟨t1, p1, rfl⟩)).mono ?_
      rintro e w' ⟨N, rfl, _, _, hb⟩
      exact ⟨_, rfl, ⟨_, rfl, by simp [hc]; rfl, ⟨by simp [hc], by simp [hc]⟩, trivial⟩, hb⟩
end Go.Proofs.YtokcgacehdgkcaaDoor.Eng.A
