/- EC1: what functions do, walked; used by the laws of this seat. -/
import Derived.Test.YtokcgacehdgkcaaGreatDoorEW2
import Derived.Test.YtokcgacehdgkcaaGreatDoorEngX4
import Derived.Test.YtokcgacehdgkcaaGreatDoorEngX3
import Derived.Test.YtokcgacehdgkcaaGreatDoorEXB
import Derived.Lib.ConvBytes
import Derived.Shelf.Strconv.Itoa3
import Derived.Shelf.Pu.ParseUintPublic10
import Derived.Shelf.Strings.Search2
import Derived.Stop.LaidErr
import Derived.RegionTactic
import Derived.BigCall
import Derived.BigGuard
namespace Go.Proofs.YtokcgacehdgkcaaGreatDoor.Eng
open Go.RowKit
theorem zLr {p : Pd} : p.le p := Pd.le_refl _
theorem zPb {v : Value} {n m : Nat} : (pl v).Bnd n m := pl_bnd _ _ _
theorem zNb {n m : Nat} (h : Nat.ble n m = true) : n ≤ m := Nat.le_of_ble_eq_true h
theorem zbc {p : Pd} {ps : List Pd} {n m : Nat} (h : p.Bnd n m) (h2 : ∀ q ∈ ps, q.Bnd n m) : ∀ q ∈ p :: ps, q.Bnd n m := bnd_cons h h2
set_option linter.defProp false in
def znz := And.intro @na (And.intro @nb (And.intro @nc (And.intro @nd (And.intro @nf (And.intro @ng (And.intro @nh (And.intro @ni (And.intro @nj @nk))))))))
end Go.Proofs.YtokcgacehdgkcaaGreatDoor.Eng
namespace Go.Proofs.YtokcgacehdgkcaaGreatDoor.Eng.A
set_option linter.unusedVariables false
set_option linter.unusedSimpArgs false
open Go.RowKit Go.Proofs.YtokcgacehdgkcaaGreatDoor.Plain Go.Proofs.YtokcgacehdgkcaaGreatDoor.Eng Go.Proofs.YtokcgacehdgkcaaGreatDoor.Eng.Pk Go.Proofs.YtokcgacehdgkcaaGreatDoor.Eng.Rd




theorem errV_eql (o : Option Int) (w : World) : (binOp .eql 33 (errV o) .nilIface).run Go.Proofs.Tryz.prog w = .ok (.bool o.isNone) w := by cases o <;> simp [errV, go_sem]
theorem errV_geql (o : Option Int) (w : World) (x : Operand) : (eqGuard .eql 33 x (.const .nilIface) (errV o) .nilIface).run Go.Proofs.Tryz.prog w = .ok () w := by cases o <;> simp [errV, go_sem]
theorem beq_dec (a b : Int) : (a == b) = decide (a = b) := rfl
end Go.Proofs.YtokcgacehdgkcaaGreatDoor.Eng.A

namespace Go.Proofs.YtokcgacehdgkcaaGreatDoor.Eng.A
set_option linter.unusedVariables false
set_option linter.unusedSimpArgs false
open Go.RowKit Go.Proofs.YtokcgacehdgkcaaGreatDoor.Plain Go.Proofs.YtokcgacehdgkcaaGreatDoor.Eng Go.Proofs.YtokcgacehdgkcaaGreatDoor.Eng.Pk Go.Proofs.YtokcgacehdgkcaaGreatDoor.Eng.Rd



open Go.Shelf
def cLen_ren : Go.Shelf.Ren := ⟨fun | 129 => 148 | n => n, fun | 53 => 22 | 3 => 3 | 4 => 4 | 46 => 208 | 5 => 5 | 9 => 9 | n => n, fun | n => n⟩
theorem cLen : Go.Proofs.Lays.n129 Tryz.prog cLen_ren := {
  mixed := by kernel_rfl
  f129 := Tryz.func148.trans (congrArg some (by kernel_rfl))
  t3 := Tryz.underlying3
  a3 := Tryz.isAgg3
  z3 := Tryz.sizeOf3
  v3 := Tryz.zeroValue3
  t4 := Tryz.underlying4
  a4 := Tryz.isAgg4
  z4 := Tryz.sizeOf4
  v4 := Tryz.zeroValue4
  t5 := Tryz.underlying5
  a5 := Tryz.isAgg5
  z5 := Tryz.sizeOf5
  v5 := Tryz.zeroValue5
  t9 := Tryz.underlying9
  a9 := Tryz.isAgg9
  z9 := Tryz.sizeOf9
  v9 := Tryz.zeroValue9
  t46 := Tryz.underlying208
  a46 := Tryz.isAgg208
  z46 := Tryz.sizeOf208
  v46 := Tryz.zeroValue208
  t53 := Tryz.underlying22
  a53 := Tryz.isAgg22
  z53 := Tryz.sizeOf22
  v53 := Tryz.zeroValue22 }
def cLog_ren : Go.Shelf.Ren := ⟨fun | 317 => 147 | n => n, fun | 3 => 3 | 46 => 208 | n => n, fun | n => n⟩
theorem cLog : Go.Proofs.Lays.n317 Tryz.prog cLog_ren := {
  mixed := by kernel_rfl
  f317 := Tryz.func147.trans (congrArg some (by kernel_rfl))
  t3 := Tryz.underlying3
  a3 := Tryz.isAgg3
  z3 := Tryz.sizeOf3
  v3 := Tryz.zeroValue3
  t46 := Tryz.underlying208
  a46 := Tryz.isAgg208
  z46 := Tryz.sizeOf208
  v46 := Tryz.zeroValue208 }
def cB2_ren : Go.Shelf.Ren := ⟨fun | 318 => 149 | n => n, fun | 3 => 3 | 4 => 4 | n => n, fun | n => n⟩
theorem cB2 : Go.Proofs.Lays.n318 Tryz.prog cB2_ren := {
  mixed := by kernel_rfl
  f318 := Tryz.func149.trans (congrArg some (by kernel_rfl))
  t3 := Tryz.underlying3
  a3 := Tryz.isAgg3
  z3 := Tryz.sizeOf3
  v3 := Tryz.zeroValue3
  t4 := Tryz.underlying4
  a4 := Tryz.isAgg4
  z4 := Tryz.sizeOf4
  v4 := Tryz.zeroValue4 }
def cSmall_ren : Go.Shelf.Ren := ⟨fun | 283 => 130 | n => n, fun | 3 => 3 | 9 => 9 | 4 => 4 | n => n, fun | n => n⟩
theorem cSmall : Go.Proofs.Lays.n283 Tryz.prog cSmall_ren := {
  mixed := by kernel_rfl
  f283 := Tryz.func130.trans (congrArg some (by kernel_rfl))
  t3 := Tryz.underlying3
  a3 := Tryz.isAgg3
  z3 := Tryz.sizeOf3
  v3 := Tryz.zeroValue3
  t4 := Tryz.underlying4
  a4 := Tryz.isAgg4
  z4 := Tryz.sizeOf4
  v4 := Tryz.zeroValue4
  t9 := Tryz.underlying9
  a9 := Tryz.isAgg9
  z9 := Tryz.sizeOf9
  v9 := Tryz.zeroValue9 }
def cFmt_ren : Go.Shelf.Ren := ⟨fun | 285 => 132 | n => n, fun | 37 => 30 | 53 => 22 | 3 => 3 | 4 => 4 | 51 => 256 | 9 => 9 | 5 => 5 | 0 => 0 | n => n, fun | n => n⟩
theorem cFmt : Go.Proofs.Lays.n285 Tryz.prog cFmt_ren := {
  mixed := by kernel_rfl
  f285 := Tryz.func132.trans (congrArg some (by kernel_rfl))
  t0 := Tryz.underlying0
  a0 := Tryz.isAgg0
  z0 := Tryz.sizeOf0
  v0 := Tryz.zeroValue0
  t3 := Tryz.underlying3
  a3 := Tryz.isAgg3
  z3 := Tryz.sizeOf3
  v3 := Tryz.zeroValue3
  t4 := Tryz.underlying4
  a4 := Tryz.isAgg4
  z4 := Tryz.sizeOf4
  v4 := Tryz.zeroValue4
  t5 := Tryz.underlying5
  a5 := Tryz.isAgg5
  z5 := Tryz.sizeOf5
  v5 := Tryz.zeroValue5
  t9 := Tryz.underlying9
  a9 := Tryz.isAgg9
  z9 := Tryz.sizeOf9
  v9 := Tryz.zeroValue9
  t37 := Tryz.underlying30
  a37 := Tryz.isAgg30
  z37 := Tryz.sizeOf30
  v37 := Tryz.zeroValue30
  t51 := Tryz.underlying256
  a51 := Tryz.isAgg256
  z51 := Tryz.sizeOf256
  v51 := Tryz.zeroValue256
  t53 := Tryz.underlying22
  a53 := Tryz.isAgg22
  z53 := Tryz.sizeOf22
  v53 := Tryz.zeroValue22 }
def cItoa_ren : Go.Shelf.Ren := ⟨fun | 171 => 85 | 243 => 107 | 246 => 129 | 283 => 130 | 284 => 131 | 285 => 132 | 286 => 133 | 129 => 148 | 317 => 147 | 318 => 149 | 319 => 150 | 320 => 151 | 337 => 164 | 338 => 165 | n => n, fun | 3 => 3 | 9 => 9 | 2 => 2 | 4 => 4 | 171 => 237 | 0 => 0 | 53 => 22 | 37 => 30 | 5 => 5 | 173 => 240 | 212 => 255 | 51 => 256 | 20 => 20 | 213 => 257 | 46 => 208 | 232 => 278 | 233 => 279 | n => n, fun | 17 => 4 | 18 => 5 | 19 => 6 | n => n⟩
theorem cItoa : Go.Proofs.Lays.n171 Tryz.prog cItoa_ren := {
  mixed := by kernel_rfl
  f129 := Tryz.func148.trans (congrArg some (by kernel_rfl))
  f171 := Tryz.func85.trans (congrArg some (by kernel_rfl))
  f243 := Tryz.func107.trans (congrArg some (by kernel_rfl))
  f246 := Tryz.func129.trans (congrArg some (by kernel_rfl))
  f283 := Tryz.func130.trans (congrArg some (by kernel_rfl))
  f284 := Tryz.func131.trans (congrArg some (by kernel_rfl))
  f285 := Tryz.func132.trans (congrArg some (by kernel_rfl))
  f286 := Tryz.func133.trans (congrArg some (by kernel_rfl))
  f317 := Tryz.func147.trans (congrArg some (by kernel_rfl))
  f318 := Tryz.func149.trans (congrArg some (by kernel_rfl))
  f319 := Tryz.func150.trans (congrArg some (by kernel_rfl))
  f320 := Tryz.func151.trans (congrArg some (by kernel_rfl))
  f337 := Tryz.func164.trans (congrArg some (by kernel_rfl))
  f338 := Tryz.func165.trans (congrArg some (by kernel_rfl))
  t0 := Tryz.underlying0
  a0 := Tryz.isAgg0
  z0 := Tryz.sizeOf0
  v0 := Tryz.zeroValue0
  t2 := Tryz.underlying2
  a2 := Tryz.isAgg2
  z2 := Tryz.sizeOf2
  v2 := Tryz.zeroValue2
  t3 := Tryz.underlying3
  a3 := Tryz.isAgg3
  z3 := Tryz.sizeOf3
  v3 := Tryz.zeroValue3
  t4 := Tryz.underlying4
  a4 := Tryz.isAgg4
  z4 := Tryz.sizeOf4
  v4 := Tryz.zeroValue4
  t5 := Tryz.underlying5
  a5 := Tryz.isAgg5
  z5 := Tryz.sizeOf5
  v5 := Tryz.zeroValue5
  t9 := Tryz.underlying9
  a9 := Tryz.isAgg9
  z9 := Tryz.sizeOf9
  v9 := Tryz.zeroValue9
  t20 := Tryz.underlying20
  a20 := Tryz.isAgg20
  z20 := Tryz.sizeOf20
  v20 := Tryz.zeroValue20
  t37 := Tryz.underlying30
  a37 := Tryz.isAgg30
  z37 := Tryz.sizeOf30
  v37 := Tryz.zeroValue30
  t46 := Tryz.underlying208
  a46 := Tryz.isAgg208
  z46 := Tryz.sizeOf208
  v46 := Tryz.zeroValue208
  t51 := Tryz.underlying256
  a51 := Tryz.isAgg256
  z51 := Tryz.sizeOf256
  v51 := Tryz.zeroValue256
  t53 := Tryz.underlying22
  a53 := Tryz.isAgg22
  z53 := Tryz.sizeOf22
  v53 := Tryz.zeroValue22
  t171 := Tryz.underlying237
  a171 := Tryz.isAgg237
  z171 := Tryz.sizeOf237
  v171 := Tryz.zeroValue237
  t173 := Tryz.underlying240
  a173 := Tryz.isAgg240
  z173 := Tryz.sizeOf240
  v173 := Tryz.zeroValue240
  t212 := Tryz.underlying255
  a212 := Tryz.isAgg255
  z212 := Tryz.sizeOf255
  v212 := Tryz.zeroValue255
  t213 := Tryz.underlying257
  a213 := Tryz.isAgg257
  z213 := Tryz.sizeOf257
  t232 := Tryz.underlying278
  a232 := Tryz.isAgg278
  z232 := Tryz.sizeOf278
  v232 := Tryz.zeroValue278
  t233 := Tryz.underlying279
  a233 := Tryz.isAgg279
  z233 := Tryz.sizeOf279
  v233 := Tryz.zeroValue279
  g17 := by kernel_rfl
  g18 := by kernel_rfl
  g19 := by kernel_rfl }
def cIdx_ren : Go.Shelf.Ren := ⟨fun | 219 => 109 | 217 => 134 | 225 => 135 | 224 => 136 | 267 => 137 | 266 => 152 | 314 => 153 | n => n, fun | 9 => 9 | 3 => 3 | 4 => 4 | 5 => 5 | 46 => 208 | 146 => 258 | 51 => 256 | n => n, fun | 1 => 1 | n => n⟩
theorem cIdx : Go.Proofs.Lays.n219 Tryz.prog cIdx_ren := {
  mixed := by kernel_rfl
  f217 := Tryz.func134.trans (congrArg some (by kernel_rfl))
  f219 := Tryz.func109.trans (congrArg some (by kernel_rfl))
  f224 := Tryz.func136.trans (congrArg some (by kernel_rfl))
  f225 := Tryz.func135.trans (congrArg some (by kernel_rfl))
  f266 := Tryz.func152.trans (congrArg some (by kernel_rfl))
  f267 := Tryz.func137.trans (congrArg some (by kernel_rfl))
  f314 := Tryz.func153.trans (congrArg some (by kernel_rfl))
  t3 := Tryz.underlying3
  a3 := Tryz.isAgg3
  z3 := Tryz.sizeOf3
  v3 := Tryz.zeroValue3
  t4 := Tryz.underlying4
  a4 := Tryz.isAgg4
  z4 := Tryz.sizeOf4
  v4 := Tryz.zeroValue4
  t5 := Tryz.underlying5
  a5 := Tryz.isAgg5
  z5 := Tryz.sizeOf5
  v5 := Tryz.zeroValue5
  t9 := Tryz.underlying9
  a9 := Tryz.isAgg9
  z9 := Tryz.sizeOf9
  v9 := Tryz.zeroValue9
  t46 := Tryz.underlying208
  a46 := Tryz.isAgg208
  z46 := Tryz.sizeOf208
  v46 := Tryz.zeroValue208
  t51 := Tryz.underlying256
  a51 := Tryz.isAgg256
  z51 := Tryz.sizeOf256
  v51 := Tryz.zeroValue256
  t146 := Tryz.underlying258
  a146 := Tryz.isAgg258
  z146 := Tryz.sizeOf258
  v146 := Tryz.zeroValue258
  g1 := by kernel_rfl }
def cPu_ren : Go.Shelf.Ren := ⟨fun | 14 => 54 | 16 => 88 | 17 => 89 | 19 => 110 | 20 => 111 | 21 => 112 | 22 => 113 | 23 => 114 | 24 => 115 | 25 => 138 | 27 => 85 | 26 => 139 | 28 => 107 | 29 => 129 | 30 => 130 | 31 => 131 | 32 => 132 | 33 => 133 | 35 => 148 | 34 => 147 | 36 => 149 | 37 => 150 | 38 => 151 | 39 => 164 | 40 => 165 | n => n, fun | 9 => 9 | 3 => 3 | 22 => 22 | 24 => 33 | 25 => 61 | 4 => 4 | 34 => 210 | 5 => 5 | 36 => 208 | 37 => 30 | 0 => 0 | 39 => 213 | 21 => 21 | 44 => 246 | 47 => 260 | 50 => 263 | 48 => 261 | 2 => 2 | 52 => 237 | 55 => 240 | 59 => 255 | 60 => 256 | 20 => 20 | 61 => 257 | 65 => 278 | 66 => 279 | 67 => 123 | n => n, fun | 0 => 2 | 1 => 3 | 2 => 4 | 3 => 5 | 4 => 6 | n => n⟩
theorem cPu : Go.Proofs.LaysPu.n14 Tryz.prog cPu_ren := {
  mixed := by kernel_rfl
  f14 := Tryz.func54.trans (congrArg some (by kernel_rfl))
  f16 := Tryz.func88.trans (congrArg some (by kernel_rfl))
  f17 := Tryz.func89.trans (congrArg some (by kernel_rfl))
  f19 := Tryz.func110.trans (congrArg some (by kernel_rfl))
  f20 := Tryz.func111.trans (congrArg some (by kernel_rfl))
  f21 := Tryz.func112.trans (congrArg some (by kernel_rfl))
  f22 := Tryz.func113.trans (congrArg some (by kernel_rfl))
  f23 := Tryz.func114.trans (congrArg some (by kernel_rfl))
  f24 := Tryz.func115.trans (congrArg some (by kernel_rfl))
  f25 := Tryz.func138.trans (congrArg some (by kernel_rfl))
  f26 := Tryz.func139.trans (congrArg some (by kernel_rfl))
  f27 := Tryz.func85.trans (congrArg some (by kernel_rfl))
  f28 := Tryz.func107.trans (congrArg some (by kernel_rfl))
  f29 := Tryz.func129.trans (congrArg some (by kernel_rfl))
  f30 := Tryz.func130.trans (congrArg some (by kernel_rfl))
  f31 := Tryz.func131.trans (congrArg some (by kernel_rfl))
  f32 := Tryz.func132.trans (congrArg some (by kernel_rfl))
  f33 := Tryz.func133.trans (congrArg some (by kernel_rfl))
  f34 := Tryz.func147.trans (congrArg some (by kernel_rfl))
  f35 := Tryz.func148.trans (congrArg some (by kernel_rfl))
  f36 := Tryz.func149.trans (congrArg some (by kernel_rfl))
  f37 := Tryz.func150.trans (congrArg some (by kernel_rfl))
  f38 := Tryz.func151.trans (congrArg some (by kernel_rfl))
  f39 := Tryz.func164.trans (congrArg some (by kernel_rfl))
  f40 := Tryz.func165.trans (congrArg some (by kernel_rfl))
  t0 := Tryz.underlying0
  a0 := Tryz.isAgg0
  z0 := Tryz.sizeOf0
  v0 := Tryz.zeroValue0
  i0 := by kernel_rfl
  t2 := Tryz.underlying2
  a2 := Tryz.isAgg2
  z2 := Tryz.sizeOf2
  v2 := Tryz.zeroValue2
  i2 := by kernel_rfl
  t3 := Tryz.underlying3
  a3 := Tryz.isAgg3
  z3 := Tryz.sizeOf3
  v3 := Tryz.zeroValue3
  i3 := by kernel_rfl
  t4 := Tryz.underlying4
  a4 := Tryz.isAgg4
  z4 := Tryz.sizeOf4
  v4 := Tryz.zeroValue4
  i4 := by kernel_rfl
  t5 := Tryz.underlying5
  a5 := Tryz.isAgg5
  z5 := Tryz.sizeOf5
  v5 := Tryz.zeroValue5
  i5 := by kernel_rfl
  t9 := Tryz.underlying9
  a9 := Tryz.isAgg9
  z9 := Tryz.sizeOf9
  v9 := Tryz.zeroValue9
  i9 := by kernel_rfl
  t20 := Tryz.underlying20
  a20 := Tryz.isAgg20
  z20 := Tryz.sizeOf20
  v20 := Tryz.zeroValue20
  i20 := by kernel_rfl
  t21 := Tryz.underlying21
  a21 := Tryz.isAgg21
  z21 := Tryz.sizeOf21
  v21 := Tryz.zeroValue21
  i21 := by kernel_rfl
  t22 := Tryz.underlying22
  a22 := Tryz.isAgg22
  z22 := Tryz.sizeOf22
  v22 := Tryz.zeroValue22
  i22 := by kernel_rfl
  t24 := Tryz.underlying33
  a24 := Tryz.isAgg33
  z24 := Tryz.sizeOf33
  v24 := Tryz.zeroValue33
  i24 := by kernel_rfl
  t25 := Tryz.underlying61
  a25 := Tryz.isAgg61
  z25 := Tryz.sizeOf61
  v25 := Tryz.zeroValue61
  i25 := by kernel_rfl
  t34 := Tryz.underlying210
  a34 := Tryz.isAgg210
  z34 := Tryz.sizeOf210
  v34 := Tryz.zeroValue210
  i34 := by kernel_rfl
  c34 := by kernel_rfl
  t36 := Tryz.underlying208
  a36 := Tryz.isAgg208
  z36 := Tryz.sizeOf208
  v36 := Tryz.zeroValue208
  i36 := by kernel_rfl
  t37 := Tryz.underlying30
  a37 := Tryz.isAgg30
  z37 := Tryz.sizeOf30
  v37 := Tryz.zeroValue30
  i37 := by kernel_rfl
  t39 := Tryz.underlying213
  a39 := Tryz.isAgg213
  z39 := Tryz.sizeOf213
  v39 := Tryz.zeroValue213
  i39 := by kernel_rfl
  t44 := Tryz.underlying246
  a44 := Tryz.isAgg246
  z44 := Tryz.sizeOf246
  v44 := Tryz.zeroValue246
  i44 := by kernel_rfl
  t47 := Tryz.underlying260
  a47 := Tryz.isAgg260
  z47 := Tryz.sizeOf260
  v47 := Tryz.zeroValue260
  i47 := by kernel_rfl
  t48 := Tryz.underlying261
  a48 := Tryz.isAgg261
  z48 := Tryz.sizeOf261
  v48 := Tryz.zeroValue261
  i48 := by kernel_rfl
  t50 := Tryz.underlying263
  a50 := Tryz.isAgg263
  z50 := Tryz.sizeOf263
  v50 := Tryz.zeroValue263
  i50 := by kernel_rfl
  t52 := Tryz.underlying237
  a52 := Tryz.isAgg237
  z52 := Tryz.sizeOf237
  v52 := Tryz.zeroValue237
  i52 := by kernel_rfl
  t55 := Tryz.underlying240
  a55 := Tryz.isAgg240
  z55 := Tryz.sizeOf240
  v55 := Tryz.zeroValue240
  i55 := by kernel_rfl
  t59 := Tryz.underlying255
  a59 := Tryz.isAgg255
  z59 := Tryz.sizeOf255
  v59 := Tryz.zeroValue255
  i59 := by kernel_rfl
  t60 := Tryz.underlying256
  a60 := Tryz.isAgg256
  z60 := Tryz.sizeOf256
  v60 := Tryz.zeroValue256
  i60 := by kernel_rfl
  t61 := Tryz.underlying257
  a61 := Tryz.isAgg257
  z61 := Tryz.sizeOf257
  t65 := Tryz.underlying278
  a65 := Tryz.isAgg278
  z65 := Tryz.sizeOf278
  v65 := Tryz.zeroValue278
  i65 := by kernel_rfl
  t66 := Tryz.underlying279
  a66 := Tryz.isAgg279
  z66 := Tryz.sizeOf279
  v66 := Tryz.zeroValue279
  i66 := by kernel_rfl
  t67 := Tryz.underlying123
  a67 := Tryz.isAgg123
  z67 := Tryz.sizeOf123
  v67 := Tryz.zeroValue123
  i67 := by kernel_rfl
  g0 := by kernel_rfl
  m0 := by kernel_rfl
  g1 := by kernel_rfl
  m1 := by kernel_rfl
  g2 := by kernel_rfl
  m2 := by kernel_rfl
  g3 := by kernel_rfl
  m3 := by kernel_rfl
  g4 := by kernel_rfl
  m4 := by kernel_rfl }


open Go.Sort Go.Lib
theorem mixedC1 : Go.Proofs.Tryz.prog.follows .mixedOrders = true := by kernel_rfl
theorem len64_c (x : Int) (w : World) (h0 : 0 ≤ x) (h1 : x ≤ 18446744073709551615) : Calls Go.Proofs.Tryz.prog 148 #[.int .u64 x] w fun e w' => e = .returned (.int .i64 (Lib.bitLen x.toNat)) ∧ w' = w := Any.bits_Len64 cLen x w h0 h1
theorem log_c (x : Nat) (h : x ≤ 64) (w : World) : Calls Go.Proofs.Tryz.prog 147 #[.int .i64 x] w fun e w' => e = .returned (.int .i64 (Lib.l10 x)) ∧ w' = w := Any.internal_strconv_log10Pow2 cLog x h w
theorem b2_c (b : Bool) (w : World) : Calls Go.Proofs.Tryz.prog 149 #[.bool b] w fun e w' => e = .returned (.int .i64 (if b then 1 else 0)) ∧ w' = w := Any.internal_strconv_bool2_int cB2 b w
theorem small_c (i : Nat) (h : i < 100) (w : World) : Calls Go.Proofs.Tryz.prog 130 #[.int .i64 i] w fun e w' => e = .returned (.string ⟨(Lib.decDigits i).toArray⟩) ∧ w' = w := Any.internal_strconv_small cSmall i h w
/-- The table of the powers of ten, cell by cell. -/
def TabAt (w : World) : Prop := ∀ i, i < 20 → w.cell? ⟨4, i, none⟩ = some (.int .u64 ((10 ^ i : Nat) : Int))
set_option maxHeartbeats 3200000 in
set_option maxRecDepth 100000 in
theorem numDigits_c (u : Nat) (h1 : 1 ≤ u) (h2 : u < 18446744073709551616) (w : World) (hT : TabAt w) :
    Calls Go.Proofs.Tryz.prog 131 #[.int .u64 u] w fun e w' => e = .returned (.int .i64 (Lib.nDigits u)) ∧ w' = w := by
  have mixed := mixedC1
  obtain ⟨hnd, h19⟩ := Lib.numDigits_eq u h1 h2
  have hL : Lib.bitLen u ≤ 64 := Lib.bitLen_le u 64 (Nat.le_refl _) h2
  have hcell := hT (Lib.l10 (Lib.bitLen u)) (by omega)
  have hto : ((u : Int)).toNat = u := by omega
  generalize hq : Lib.l10 (Lib.bitLen u) = q at hnd h19 hcell
  generalize hTT : 10 ^ q = T at hnd hcell
  have h20 : q < 20 := by omega
  have Hnd := Lib.hid hnd
  clear hnd hT
  go_enter Go.Proofs.Tryz.func131, Go.Proofs.Tryz.ntmps131
  go_wp2_with (first
    | (with_reducible refine (len64_c _ _ (by omega) (by omega)).mono ?_; rintro e w' ⟨rfl, rfl⟩)
    | (with_reducible refine (log_c _ (by first | exact hL | (rw [hto]; exact hL)) _).mono ?_; rintro e w' ⟨rfl, rfl⟩)
    | (with_reducible refine (b2_c _ _).mono ?_; rintro e w' ⟨rfl, rfl⟩))
  all_goals go_ret
  all_goals (
    refine ⟨?_, rfl⟩
    have hnd := Hnd.out
    congr 2
    split at hnd <;> simp_all <;> omega)
theorem tabAt_alloc {w : World} (h : TabAt w) (o : Obj) : TabAt (w.alloc o) := fun i hi => Go.cell?_alloc_old o (h i hi)
theorem holds0 (w : World) (T : TypeId) (nd : Nat) (hs : nd ≤ 24) : Go.Sort.Holds (fun (b : UInt8) => Value.int .u8 (b.toNat : Int)) (w.alloc (.cells Lib.zeros24 T)) w.heap.size 0 (Array.replicate nd (0 : UInt8)) := fun j hj => by
  have hj' : j < nd := by simpa using hj
  refine ⟨?_, World.frozen?_alloc_new _ _ _ _⟩
  rw [World.cell?_alloc_new, Lib.zeros24_at _ (by omega), getElem!_pos _ j hj]
  simp
theorem fin0 (w : World) (o : Obj) (dk : Array UInt8) (k : Nat) : ∃ os, (putRow (fun (b : UInt8) => Value.int .u8 (b.toNat : Int)) (w.alloc o) w.heap.size 0 dk).drewN k = grow (w.drewN k) os := by
  rw [alloc_eq_grow]
  obtain ⟨os', _, e⟩ := putRow_grow_new (fun (b : UInt8) => Value.int .u8 (b.toNat : Int)) w #[o] w.heap.size 0 dk (Nat.le_refl _)
  exact ⟨os', by rw [e]; rfl⟩
theorem fmt_c (blk off cap : Nat) (u : Nat) (d : Array UInt8) (w : World) (hH : Go.Sort.Holds (fun (b : UInt8) => Value.int .u8 (b.toNat : Int)) w blk off d) (hu : u < 10 ^ d.size) (hu64 : u < 18446744073709551616) (hsz : d.size < 4611686018427387904) :
    Calls Go.Proofs.Tryz.prog 132 #[.slice (some ⟨blk, off, none⟩) d.size cap, .int .u64 u] w fun e w' =>
      e = .returned (.tuple #[]) ∧ ∃ (n v' : Nat) (dk : Array UInt8), w' = (putRow (fun (b : UInt8) => Value.int .u8 (b.toNat : Int)) w blk off dk).drewN n ∧ FmtInv d.size u 0 v' dk := Any.internal_strconv_formatBase10 cFmt blk off cap u d w hH hu hu64 hsz
set_option maxHeartbeats 3200000 in
set_option maxRecDepth 100000 in
theorem fmtUint_c (u : Nat) (hu64 : u < 18446744073709551616) (w : World) (hT : TabAt w) :
    Calls Go.Proofs.Tryz.prog 108 #[.int .u64 u, .int .i64 10] w fun e w' => e = .returned (.string ⟨(Lib.decDigits u).toArray⟩) ∧ ∃ k os, w' = grow (w.drewN k) os := by
  have mixed := mixedC1
  by_cases hs : u < 100
  · go_enter Go.Proofs.Tryz.func108, Go.Proofs.Tryz.ntmps108
    go_wp2_with (with_reducible refine (small_c u hs _).mono ?_; rintro e w' ⟨rfl, rfl⟩)
    go_ret
    exact ⟨rfl, 0, #[], by simp [World.drewN_zero]⟩
  · have hu1 : 1 ≤ u := by omega
    have hnd20 : Lib.nDigits u ≤ 20 := by have := Lib.numDigits_eq u hu1 hu64; split at this <;> omega
    have hal : Go.Proofs.Tryz.prog.arrayLen 237 = 24 := by kernel_rfl
    have hsl1 : ∀ W, (Instr.sliceAt 237 (.pointer (some ⟨w.heap.size, 0, none⟩)) none (some (.int .i64 (Lib.nDigits u : Int))) none).run Go.Proofs.Tryz.prog W = .ok (.slice (some ⟨w.heap.size, 0, none⟩) (Lib.nDigits u) 24) W := fun W => by
      rw [run_sliceAt_array_h W 237 ⟨w.heap.size, 0, none⟩ (by simp [Program.arrayLen, Program.elem, Go.Proofs.Tryz.underlying237]) .i64 (Lib.nDigits u : Int) (by omega) (by rw [hal]; omega)]
      go_simp
      try omega
    have hH0 := holds0 w 237 (Lib.nDigits u) (by omega)
    have hfmt := fmt_c w.heap.size 0 24 u (Array.replicate (Lib.nDigits u) 0) (w.alloc (.cells Lib.zeros24 237)) hH0 (by rw [Array.size_replicate]; exact Lib.lt_pow_nDigits u) hu64 (by rw [Array.size_replicate]; omega)
    rw [Array.size_replicate] at hfmt
    have HH0 := Lib.hid hH0
    clear hH0 hal
    go_enter Go.Proofs.Tryz.func108, Go.Proofs.Tryz.ntmps108
    go_wp2_with (with_reducible refine (numDigits_c u hu1 hu64 _ (tabAt_alloc hT _)).mono ?_; rintro e w' ⟨rfl, rfl⟩)
    refine hfmt.mono ?_
    rintro e w' ⟨rfl, k, v', dk, rfl, hF⟩
    have hcv : (convert 30 9 (.slice (some ⟨w.heap.size, 0, none⟩) (Lib.nDigits u) 24)).run Go.Proofs.Tryz.prog ((putRow (fun (b : UInt8) => Value.int .u8 (b.toNat : Int)) (w.alloc (.cells Lib.zeros24 237)) w.heap.size 0 dk).drewN k) = .ok (.string ⟨(Lib.decDigits u).toArray⟩) ((putRow (fun (b : UInt8) => Value.int .u8 (b.toNat : Int)) (w.alloc (.cells Lib.zeros24 237)) w.heap.size 0 dk).drewN k) := by
      have h := run_convert_bytes_back (P := Go.Proofs.Tryz.prog) ((putRow (fun (b : UInt8) => Value.int .u8 (b.toNat : Int)) (w.alloc (.cells Lib.zeros24 237)) w.heap.size 0 dk).drewN k) 30 9 5 ⟨w.heap.size, 0, none⟩ 24 (Lib.decDigits u) Go.Proofs.Tryz.underlying30 Go.Proofs.Tryz.underlying5 Go.Proofs.Tryz.underlying9 (fun j hj => by
        rw [Lib.row_is_numeral hF j hj, Lib.add_plain, World.cell?_drewN]
        exact cell?_putRow (fun (b : UInt8) => Value.int .u8 (b.toNat : Int)) _ w.heap.size 0 _ dk HH0.out (by rw [hF.size, Array.size_replicate]) j (by rw [hF.size]; rw [Lib.decDigits_length] at hj; exact hj))
      rw [Lib.decDigits_length] at h
      exact h
    go_wp2
    go_ret
    obtain ⟨os, eo⟩ := fin0 w (.cells Lib.zeros24 237) dk k
    exact ⟨rfl, k, os, eo⟩
set_option maxRecDepth 100000 in
theorem FmtUint_c (u : Nat) (hu64 : u < 18446744073709551616) (w : World) (hT : TabAt w) :
    Calls Go.Proofs.Tryz.prog 86 #[.int .u64 u, .int .i64 10] w fun e w' => e = .returned (.string ⟨(Lib.decDigits u).toArray⟩) ∧ ∃ k os, w' = grow (w.drewN k) os := by
  go_enter Go.Proofs.Tryz.func86, Go.Proofs.Tryz.ntmps86
  go_wp2_with (with_reducible refine (fmtUint_c u hu64 _ hT).mono ?_; rintro e w' ⟨rfl, k, os, rfl⟩)
  go_ret
  exact ⟨rfl, k, os, rfl⟩
theorem Itoa_c (i : Nat) (hi : i < 100) (w : World) : Calls Go.Proofs.Tryz.prog 85 #[.int .i64 i] w fun e w' => e = .returned (.string ⟨(Lib.decDigits i).toArray⟩) ∧ w' = w := Any.strconv_Itoa_small cItoa i hi w
theorem idx_c (s : ByteArray) (c : UInt8) (w : World) : Calls Go.Proofs.Tryz.prog 109 #[.string s, .string ⟨#[c]⟩] w fun e w' => e = .returned (.int .i64 (Lib.indexByte s.data.toList c)) ∧ w' = w := Any.stringslite_Index_one cIdx s c w
set_option maxHeartbeats 1000000 in
set_option maxRecDepth 100000 in
theorem cut_hit (s : ByteArray) (c : UInt8) (i : Nat) (hi : Lib.indexByte s.data.toList c = (i : Int)) (hl : i < s.size) (hs : s.size < 4294967281) (w : World) :
    Calls Go.Proofs.Tryz.prog 87 #[.string s, .string ⟨#[c]⟩] w fun e w' => e = .returned (.tuple #[.string (s.extract 0 i), .string (s.extract (i + 1) s.size), .bool true]) ∧ ∃ n, w' = w.drewN n := by
  have mixed := mixedC1
  have c2 : (↑i : Int) ≤ ↑s.size := by omega
  have c3 : (0 : Int) ≤ ↑i + 1 := by omega
  have c5 : (↑i + 1 : Int) ≤ 9223372036854775807 := by omega
  have c4 : (↑i + 1 : Int) ≤ ↑s.size := by omega
  go_enter Go.Proofs.Tryz.func87, Go.Proofs.Tryz.ntmps87
  go_wp2_with (with_reducible refine (idx_c s c _).mono ?_; rintro e w' ⟨rfl, rfl⟩; rw [hi])
  go_region_o
  go_wp2
  go_ret3
  exact ⟨rfl, 1, rfl⟩
set_option maxHeartbeats 1000000 in
set_option maxRecDepth 100000 in
theorem cut_miss (s : ByteArray) (c : UInt8) (hi : Lib.indexByte s.data.toList c = -1) (w : World) :
    Calls Go.Proofs.Tryz.prog 87 #[.string s, .string ⟨#[c]⟩] w fun e w' => e = .returned (.tuple #[.string s, .string ByteArray.empty, .bool false]) ∧ ∃ n, w' = w.drewN n := by
  have mixed := mixedC1
  go_enter Go.Proofs.Tryz.func87, Go.Proofs.Tryz.ntmps87
  go_wp2_with (with_reducible refine (idx_c s c _).mono ?_; rintro e w' ⟨rfl, rfl⟩; rw [hi])
  go_ret3
  exact ⟨rfl, 0, rfl⟩
/-- strings.Cut at one byte. -/
def cutB (s : ByteArray) (c : UInt8) : ByteArray × ByteArray × Bool :=
  if 0 ≤ Lib.indexByte s.data.toList c then (s.extract 0 (Lib.indexByte s.data.toList c).toNat, s.extract ((Lib.indexByte s.data.toList c).toNat + 1) s.size, true) else (s, ByteArray.empty, false)
set_option maxRecDepth 100000 in
theorem Cut_c (s : ByteArray) (c : UInt8) (hs : s.size < 4294967281) (w : World) :
    Calls Go.Proofs.Tryz.prog 53 #[.string s, .string ⟨#[c]⟩] w fun e w' => e = .returned (.tuple #[.string (cutB s c).1, .string (cutB s c).2.1, .bool (cutB s c).2.2]) ∧ ∃ n, w' = w.drewN n := by
  have hc : Calls Go.Proofs.Tryz.prog 87 #[.string s, .string ⟨#[c]⟩] w fun e w' => e = .returned (.tuple #[.string (cutB s c).1, .string (cutB s c).2.1, .bool (cutB s c).2.2]) ∧ ∃ n, w' = w.drewN n := by
    have hge := Lib.indexByte_ge s.data.toList c
    by_cases h : Lib.indexByte s.data.toList c = -1
    · rw [show cutB s c = (s, ByteArray.empty, false) by unfold cutB; rw [h]; rfl]
      exact cut_miss s c h w
    · obtain ⟨i, hi⟩ : ∃ i : Nat, Lib.indexByte s.data.toList c = (i : Int) := ⟨(Lib.indexByte s.data.toList c).toNat, by omega⟩
      have hl : i < s.size := by
        have := (List.getElem?_eq_some_iff.1 (Lib.indexByte_some hi).1).1
        simpa using this
      rw [show cutB s c = (s.extract 0 i, s.extract (i + 1) s.size, true) by unfold cutB; rw [hi, if_pos (by omega)]; simp]
      exact cut_hit s c i hi hl hs w
  revert hc
  generalize cutB s c = z
  intro hc
  go_enter Go.Proofs.Tryz.func53, Go.Proofs.Tryz.ntmps53
  go_wp2_with (with_reducible refine hc.mono ?_; rintro e w' ⟨rfl, n, rfl⟩)
  go_ret3
  exact ⟨rfl, n, rfl⟩

/-! ### The same in the engine's words -/
theorem below_bytes (w : World) (t : TypeId) (s : ByteArray) : Go.RowKit.Below w.heap.size w (Lib.bytesWorld w t s) :=
  ⟨rfl, rfl, rfl, by simp [Lib.bytesWorld, World.freeze, World.alloc, World.drew, -World.alloc_eq, -World.drew_eq], fun k hk => Lib.bytesWorld_at_old w t s k hk⟩
open Go.Proofs.YtokcgacehdgkcaaGreatDoor.Eng.Er Go.Proofs.YtokcgacehdgkcaaGreatDoor.Eng.Er2
def StC (s : St) : Prop := StGV s ∧ ∀ g w, s.stat.h g w .nilFunc → TabAt w ∧ (∃ t p, w.cell? ⟨2, 0, none⟩ = some (.iface t p)) ∧ (∃ t p, w.cell? ⟨3, 0, none⟩ = some (.iface t p))
theorem pds1 {g : G} {w : World} {p : Pd} {vs : List Value} (h : Pds g w [p] vs) : ∃ v, vs = [v] ∧ p.h g w v := by
  match vs, h with
  | [a], h => exact ⟨a, rfl, h.1⟩
  | [], h => exact h.elim
  | _ :: _ :: _, h => exact h.2.elim
theorem pds2 {g : G} {w : World} {p q : Pd} {vs : List Value} (h : Pds g w [p, q] vs) : ∃ v u, vs = [v, u] ∧ p.h g w v ∧ q.h g w u := by
  match vs, h with
  | [a, b], h => exact ⟨a, b, rfl, h.1, h.2.1⟩
  | [], h => exact h.elim
  | [_], h => exact h.2.elim
  | _ :: _ :: _ :: _, h => exact h.2.2.elim
theorem pds3 {g : G} {w : World} {p q r : Pd} {vs : List Value} (h : Pds g w [p, q, r] vs) : ∃ v u x, vs = [v, u, x] ∧ p.h g w v ∧ q.h g w u ∧ r.h g w x := by
  match vs, h with
  | [a, b, c], h => exact ⟨a, b, c, rfl, h.1, h.2.1, h.2.2.1⟩
  | [], h => exact h.elim
  | [_], h => exact h.2.elim
  | [_, _], h => exact h.2.2.elim
  | _ :: _ :: _ :: _ :: _, h => exact h.2.2.2.elim
def F_Itoa (n : Int) : Option ByteArray := grd (0 ≤ n ∧ n < 100) <| some ⟨(Lib.decDigits n.toNat).toArray⟩
theorem c_Itoa {n : Int} {R : ByteArray} (h0 : F_Itoa n = some R) : Pure Go.Proofs.Tryz.prog 85 [pl (.int .i64 n)] (pl (.string R)) := by
  intro s
  obtain ⟨hh0, k0⟩ := grd_some h0
  obtain rfl := some_of k0
  clear h0 k0
  obtain ⟨h1, h2⟩ := hh0
  obtain ⟨i, rfl⟩ : ∃ i : Nat, n = i := ⟨n.toNat, by omega⟩
  refine ac_below fun g w vs hp hs => ?_
  obtain ⟨v, rfl, hv⟩ := pds1 hp
  obtain rfl : v = .int .i64 (i : Int) := hv
  refine (Itoa_c i (by omega) w).mono ?_
  rintro e w' ⟨rfl, rfl⟩
  exact ⟨_, rfl, rfl, Go.RowKit.Below.refl _ _⟩
def F_FmtUint (u b : Int) : Option ByteArray := grd (0 ≤ u ∧ u < 18446744073709551616 ∧ b = 10) <| some ⟨(Lib.decDigits u.toNat).toArray⟩
theorem c_FmtUint {u b : Int} {R : ByteArray} {s : St} (h0 : F_FmtUint u b = some R) (hst : StC s) : AC Go.Proofs.Tryz.prog 86 [pl (.int .u64 u), pl (.int .i64 b)] s (pl (.string R)) s := by
  obtain ⟨hh0, k0⟩ := grd_some h0
  obtain rfl := some_of k0
  clear h0 k0
  obtain ⟨h1, h2, rfl⟩ := hh0
  obtain ⟨i, rfl⟩ : ∃ i : Nat, u = i := ⟨u.toNat, by omega⟩
  refine ac_below fun g w vs hp hs => ?_
  obtain ⟨v, z, rfl, hv, hz⟩ := pds2 hp
  obtain rfl : v = .int .u64 (i : Int) := hv
  obtain rfl : z = .int .i64 10 := hz
  refine (FmtUint_c i (by omega) w (hst.2 _ _ hs.st).1).mono ?_
  rintro e w' ⟨rfl, k, os, rfl⟩
  exact ⟨_, rfl, rfl, below_grow w k os⟩
def F_Cut (s p : ByteArray) : Option (ByteArray × ByteArray × Bool) := grd (s.size < 4294967281 ∧ p = ⟨#[46]⟩) <| some (cutB s 46)
theorem c_Cut {s0 p : ByteArray} {R : ByteArray × ByteArray × Bool} (h0 : F_Cut s0 p = some R) : Pure Go.Proofs.Tryz.prog 53 [pl (.string s0), pl (.string p)] (tup [pl (.string R.1), pl (.string R.2.1), pl (.bool R.2.2)]) := by
  intro s
  obtain ⟨hh0, k0⟩ := grd_some h0
  obtain rfl := some_of k0
  clear h0 k0
  obtain ⟨h1, rfl⟩ := hh0
  refine ac_below fun g w vs hp hs => ?_
  obtain ⟨v, z, rfl, hv, hz⟩ := pds2 hp
  obtain rfl : v = .string s0 := hv
  obtain rfl : z = .string ⟨#[46]⟩ := hz
  refine (Cut_c s0 46 h1 w).mono ?_
  rintro e w' ⟨rfl, n, rfl⟩
  exact ⟨_, rfl, ⟨_, rfl, rfl, rfl, rfl, trivial⟩, below_drewN w n⟩
/-- strconv.ParseUint at base 10: the number, and is there an error. -/
def puR (B : Nat) (s : ByteArray) : Int × Bool :=
  match Lib.parseUintB B s.data.toList with
  | .ok u => (u, false)
  | .range => ((2 ^ B - 1 : Nat), true)
  | _ => (0, true)
def F_ParseUint (s : ByteArray) (b n : Int) : Option (Int × Bool) := grd (s.size ≤ 281474976710656 ∧ b = 10 ∧ (n = 8 ∨ n = 64)) <| some (puR n.toNat s)
theorem c_ParseUint {s0 : ByteArray} {b n : Int} {R : Int × Bool} {s : St} (h0 : F_ParseUint s0 b n = some R) (hst : StC s) : AC Go.Proofs.Tryz.prog 54 [pl (.string s0), pl (.int .i64 b), pl (.int .i64 n)] s (tup [pl (.int .u64 R.1), errA R.2]) s := by
  obtain ⟨hh0, k0⟩ := grd_some h0
  obtain rfl := some_of k0
  clear h0 k0
  obtain ⟨h1, rfl, h2⟩ := hh0
  refine ac_below fun g w vs hp hs => ?_
  obtain ⟨v, z, y, rfl, hv, hz, hy⟩ := pds3 hp
  obtain rfl : v = .string s0 := hv
  obtain rfl : z = .int .i64 10 := hz
  obtain rfl : y = .int .i64 n := hy
  obtain ⟨_, ⟨t1, p1, hS⟩, ⟨t2, p2, hR⟩⟩ := hst.2 _ _ hs.st
  unfold puR
  rcases h2 with rfl | rfl
  · cases hc : Lib.parseUintB 8 s0.data.toList with
    | ok u =>
      refine (Any.strconv_ParseUint_10_at8_ok cPu s0 (by omega) u hc w).mono ?_
      rintro e w' ⟨rfl, hw⟩
      refine ⟨_, rfl, ⟨_, rfl, by simp [hc]; rfl, ⟨by simp [hc], by simp [hc]⟩, trivial⟩, ?_⟩
      rcases hw with rfl | rfl
      · exact Go.RowKit.Below.refl _ _
      · exact below_bytes w _ s0
    | range =>
      refine (Any.strconv_ParseUint_10_at8_range cPu s0 h1 hc _ w hR (.inr ⟨t2, p2, rfl⟩)).mono ?_
      rintro e w' ⟨N, rfl, _, _, hb⟩
      exact ⟨_, rfl, ⟨_, rfl, by simp [hc]; rfl, ⟨by simp [hc], by simp [hc]⟩, trivial⟩, hb⟩
    | _ =>
      refine (Any.strconv_ParseUint_10_at8_syntax cPu s0 h1 hc _ w hS (.inr ⟨t1, p1, rfl⟩)).mono ?_
      rintro e w' ⟨N, rfl, _, _, hb⟩
      exact ⟨_, rfl, ⟨_, rfl, by simp [hc]; rfl, ⟨by simp [hc], by simp [hc]⟩, trivial⟩, hb⟩
  · cases hc : Lib.parseUintB 64 s0.data.toList with
    | ok u =>
      refine (Any.strconv_ParseUint_10_at64_ok cPu s0 (by omega) u hc w).mono ?_
      rintro e w' ⟨rfl, hw⟩
      refine ⟨_, rfl, ⟨_, rfl, by simp [hc]; rfl, ⟨by simp [hc], by simp [hc]⟩, trivial⟩, ?_⟩
      rcases hw with rfl | rfl
      · exact Go.RowKit.Below.refl _ _
      · exact below_bytes w _ s0
    | range =>
      refine (Any.strconv_ParseUint_10_at64_range cPu s0 h1 hc _ w hR (.inr ⟨t2, p2, rfl⟩)).mono ?_
      rintro e w' ⟨N, rfl, _, _, hb⟩
      exact ⟨_, rfl, ⟨_, rfl, by simp [hc]; rfl, ⟨by simp [hc], by simp [hc]⟩, trivial⟩, hb⟩
    | _ =>
      refine (Any.strconv_ParseUint_10_at64_syntax cPu s0 h1 hc _ w hS (.inr ⟨t1, p1, rfl⟩)).mono ?_
      rintro e w' ⟨N, rfl, _, _, hb⟩
      exact ⟨_, rfl, ⟨_, rfl, by simp [hc]; rfl, ⟨by simp [hc], by simp [hc]⟩, trivial⟩, hb⟩
end Go.Proofs.YtokcgacehdgkcaaGreatDoor.Eng.A
