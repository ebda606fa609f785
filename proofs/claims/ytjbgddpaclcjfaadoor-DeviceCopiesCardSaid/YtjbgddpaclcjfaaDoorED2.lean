/- ED2: what functions do, walked; used by the laws of this seat. -/
import Derived.Test.YtjbgddpaclcjfaaDoorED1
import Derived.Test.YtjbgddpaclcjfaaDoorEXB
import Derived.Shelf.Sort.Plain
import Derived.Shelf.Slices.In.SortNone
import Derived.Shelf.SlMaps.Clone
namespace Go.Proofs.YtjbgddpaclcjfaaDoor.Eng.A
set_option linter.unusedVariables false
set_option linter.unusedSimpArgs false
open Go.RowKit Go.Proofs.YtjbgddpaclcjfaaDoor.Plain Go.Proofs.YtjbgddpaclcjfaaDoor.Eng Go.Proofs.YtjbgddpaclcjfaaDoor.Eng.Pk Go.Proofs.YtjbgddpaclcjfaaDoor.Eng.Rd



open Go.Shelf
def sortI_ren : Go.Shelf.Ren := ⟨fun | 189 => 86 | 125 => 136 | 257 => 135 | 128 => 177 | 129 => 178 | 294 => 168 | 295 => 169 | 296 => 170 | 297 => 171 | 298 => 172 | 299 => 173 | 216 => 174 | 300 => 175 | 301 => 176 | 328 => 204 | 329 => 205 | 330 => 206 | 331 => 207 | 332 => 208 | 215 => 185 | 343 => 228 | n => n, fun | 28 => 36 | 3 => 3 | 46 => 222 | 0 => 0 | 51 => 275 | 53 => 88 | 4 => 4 | 183 => 267 | 182 => 266 | 131 => 272 | 5 => 5 | 9 => 9 | 218 => 307 | 222 => 311 | 228 => 332 | 229 => 52 | n => n, fun | n => n⟩
theorem sortI : Go.Proofs.Lays.n189 Tryd.prog sortI_ren := {
  mixed := by kernel_rfl
  f125 := Tryd.func136.trans (congrArg some (by kernel_rfl))
  f128 := Tryd.func177.trans (congrArg some (by kernel_rfl))
  f129 := Tryd.func178.trans (congrArg some (by kernel_rfl))
  f189 := Tryd.func86.trans (congrArg some (by kernel_rfl))
  f215 := Tryd.func185.trans (congrArg some (by kernel_rfl))
  f216 := Tryd.func174.trans (congrArg some (by kernel_rfl))
  f257 := Tryd.func135.trans (congrArg some (by kernel_rfl))
  f294 := Tryd.func168.trans (congrArg some (by kernel_rfl))
  f295 := Tryd.func169.trans (congrArg some (by kernel_rfl))
  f296 := Tryd.func170.trans (congrArg some (by kernel_rfl))
  f297 := Tryd.func171.trans (congrArg some (by kernel_rfl))
  f298 := Tryd.func172.trans (congrArg some (by kernel_rfl))
  f299 := Tryd.func173.trans (congrArg some (by kernel_rfl))
  f300 := Tryd.func175.trans (congrArg some (by kernel_rfl))
  f301 := Tryd.func176.trans (congrArg some (by kernel_rfl))
  f328 := Tryd.func204.trans (congrArg some (by kernel_rfl))
  f329 := Tryd.func205.trans (congrArg some (by kernel_rfl))
  f330 := Tryd.func206.trans (congrArg some (by kernel_rfl))
  f331 := Tryd.func207.trans (congrArg some (by kernel_rfl))
  f332 := Tryd.func208.trans (congrArg some (by kernel_rfl))
  f343 := Tryd.func228.trans (congrArg some (by kernel_rfl))
  t0 := Tryd.underlying0
  a0 := Tryd.isAgg0
  z0 := Tryd.sizeOf0
  v0 := Tryd.zeroValue0
  t3 := Tryd.underlying3
  a3 := Tryd.isAgg3
  z3 := Tryd.sizeOf3
  v3 := Tryd.zeroValue3
  t4 := Tryd.underlying4
  a4 := Tryd.isAgg4
  z4 := Tryd.sizeOf4
  v4 := Tryd.zeroValue4
  t5 := Tryd.underlying5
  a5 := Tryd.isAgg5
  z5 := Tryd.sizeOf5
  v5 := Tryd.zeroValue5
  t9 := Tryd.underlying9
  a9 := Tryd.isAgg9
  z9 := Tryd.sizeOf9
  v9 := Tryd.zeroValue9
  t28 := Tryd.underlying36
  a28 := Tryd.isAgg36
  z28 := Tryd.sizeOf36
  v28 := Tryd.zeroValue36
  t46 := Tryd.underlying222
  a46 := Tryd.isAgg222
  z46 := Tryd.sizeOf222
  v46 := Tryd.zeroValue222
  t51 := Tryd.underlying275
  a51 := Tryd.isAgg275
  z51 := Tryd.sizeOf275
  v51 := Tryd.zeroValue275
  t53 := Tryd.underlying88
  a53 := Tryd.isAgg88
  z53 := Tryd.sizeOf88
  v53 := Tryd.zeroValue88
  t131 := Tryd.underlying272
  a131 := Tryd.isAgg272
  z131 := Tryd.sizeOf272
  v131 := Tryd.zeroValue272
  t182 := Tryd.underlying266
  a182 := Tryd.isAgg266
  z182 := Tryd.sizeOf266
  v182 := Tryd.zeroValue266
  t183 := Tryd.underlying267
  a183 := Tryd.isAgg267
  z183 := Tryd.sizeOf267
  v183 := Tryd.zeroValue267
  t218 := Tryd.underlying307
  a218 := Tryd.isAgg307
  z218 := Tryd.sizeOf307
  v218 := Tryd.zeroValue307
  t222 := Tryd.underlying311
  a222 := Tryd.isAgg311
  z222 := Tryd.sizeOf311
  v222 := Tryd.zeroValue311
  t228 := Tryd.underlying332
  a228 := Tryd.isAgg332
  z228 := Tryd.sizeOf332
  v228 := Tryd.zeroValue332
  t229 := Tryd.underlying52
  a229 := Tryd.isAgg52
  z229 := Tryd.sizeOf52
  v229 := Tryd.zeroValue52 }
def cloneD_ren : Go.Shelf.Ren := ⟨fun | 5 => 88 | 7 => 137 | n => n, fun | 23 => 158 | 25 => 165 | 3 => 163 | 4 => 4 | 20 => 20 | n => n, fun | n => n⟩
theorem cloneD : Go.Proofs.SlLaysW.n5 Tryd.prog cloneD_ren := {
  mixed := by kernel_rfl
  f5 := ⟨Tryd.f88.name, by decide, Tryd.func88.trans (congrArg some (by kernel_rfl))⟩
  f7 := Tryd.func137.trans (congrArg some (by kernel_rfl))
  t4 := Tryd.underlying4
  a4 := Tryd.isAgg4
  z4 := Tryd.sizeOf4
  v4 := Tryd.zeroValue4
  t20 := Tryd.underlying20
  a20 := Tryd.isAgg20
  z20 := Tryd.sizeOf20
  v20 := Tryd.zeroValue20
  t23 := Tryd.underlying158
  a23 := Tryd.isAgg158
  z23 := Tryd.sizeOf158
  v23 := Tryd.zeroValue158 }


def F_sortI (p0 : List Int) : Option (List Int) := grd (p0.length < 4611686018427387904) <| some (isort p0)
theorem c_sortI {p0 : List Int} {R : List Int} {s : St} {g0 r0 : Nat} (h0 : F_sortI p0 = some R) (_ : UD s.boxes.length [g0]) (hr0 : 2 ≤ r0) (er0 : r0 % 2 = 0) (hB0 : s.boxes[g0]? = some ⟨hot 3 r0, flat (kI .i64) p0⟩) :
    AC Go.Proofs.Tryd.prog 86 [hsl g0 r0 0 p0.length (kI .i64).sz] s (pl (.tuple #[])) (s.updL [(g0, ⟨hot 3 r0, flat (kI .i64) R⟩)]) := by
  obtain ⟨hl, h0⟩ := grd_some h0
  obtain rfl := some_of h0
  exact ac_sort1 (fun blk cap zs w h1 h2 h3 => Any.slices_Sort_int sortI blk 0 cap zs w h1 h2 h3) (fun A cap w => Any.slices_Sort_int_none sortI A cap w) rfl hr0 er0 hB0 hl
def F_mclone (p0 : (At → Option (List Int))) : Option (At → Option (List Int)) := some p0
theorem c_mclone {p0 R : (At → Option (List Int))} {s : St} {N g0 : Nat} {M0 : Pd} (h0 : F_mclone p0 = some R) (hNs : s.boxes.length = N) (_ : UD s.boxes.length [g0]) (hB0 : s.boxes[g0]? = some ⟨HOT, [M0]⟩) (hM0 : M0.le (mpf KM_dev p0)) (_ : ∀ n m, M0.Bnd n m) :
    AC Go.Proofs.Tryd.prog 88 [mref g0] s (mref (N + 0)) (s.ext [⟨HOT, [mpf KM_dev R]⟩] []) := by
  obtain rfl := some_of h0
  exact ac_mclone (fun b es c w h => AnyW.maps_Clone cloneD b es c w h) hNs hB0 hM0
end Go.Proofs.YtjbgddpaclcjfaaDoor.Eng.A
