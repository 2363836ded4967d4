/-
  DERIVED: THE SHELF's CONTRACTS AT THIS DUMP, IN PLAIN WORDS (tools/lay-plain.mjs out of 'YtggjceolhbdalaaDoorLayScratch.lean', which tools/lay-shelf.mjs wrote): THE SAME DECLARATIONS UNDER THE SAME NAMES: 'import', 'namespace', 'open', 'def', 'theorem' AND NOTHING ELSE: no command of the shelf's: FOR A HAND-IN. Each laying: the table of numbers ('.._ren') and one theorem, a field a fact of the dump's own or the kernel's comparison; each contract: ONE APPLICATION.
-/
import Derived.Shelf.Sort.Plain
import Derived.Shelf.Slices.In.SortNone
import Derived.Ground.NamesProg
import Derived.Test.YtggjceolhbdalaaDoorProg
namespace Go.Proofs
open Go.Shelf
def Tryd.shSortI_ren : Go.Shelf.Ren := ⟨fun | 189 => 41 | 125 => 64 | 257 => 63 | 128 => 97 | 129 => 98 | 294 => 89 | 295 => 90 | 296 => 91 | 297 => 92 | 298 => 93 | 299 => 94 | 216 => 59 | 300 => 95 | 301 => 96 | 328 => 124 | 329 => 125 | 330 => 126 | 331 => 127 | 332 => 128 | 215 => 87 | 343 => 144 | n => n, fun | 28 => 106 | 3 => 3 | 46 => 81 | 0 => 0 | 51 => 174 | 53 => 176 | 4 => 4 | 183 => 168 | 182 => 167 | 131 => 109 | 5 => 5 | 9 => 9 | 218 => 195 | 222 => 199 | 228 => 219 | 229 => 220 | n => n, fun | n => n⟩
theorem Tryd.shSortI : Go.Proofs.Lays.n189 Tryd.prog Tryd.shSortI_ren := {
  mixed := by kernel_rfl
  f125 := Tryd.func64.trans (congrArg some (by kernel_rfl))
  f128 := Tryd.func97.trans (congrArg some (by kernel_rfl))
  f129 := Tryd.func98.trans (congrArg some (by kernel_rfl))
  f189 := Tryd.func41.trans (congrArg some (by kernel_rfl))
  f215 := Tryd.func87.trans (congrArg some (by kernel_rfl))
  f216 := Tryd.func59.trans (congrArg some (by kernel_rfl))
  f257 := Tryd.func63.trans (congrArg some (by kernel_rfl))
  f294 := Tryd.func89.trans (congrArg some (by kernel_rfl))
  f295 := Tryd.func90.trans (congrArg some (by kernel_rfl))
  f296 := Tryd.func91.trans (congrArg some (by kernel_rfl))
  f297 := Tryd.func92.trans (congrArg some (by kernel_rfl))
  f298 := Tryd.func93.trans (congrArg some (by kernel_rfl))
  f299 := Tryd.func94.trans (congrArg some (by kernel_rfl))
  f300 := Tryd.func95.trans (congrArg some (by kernel_rfl))
  f301 := Tryd.func96.trans (congrArg some (by kernel_rfl))
  f328 := Tryd.func124.trans (congrArg some (by kernel_rfl))
  f329 := Tryd.func125.trans (congrArg some (by kernel_rfl))
  f330 := Tryd.func126.trans (congrArg some (by kernel_rfl))
  f331 := Tryd.func127.trans (congrArg some (by kernel_rfl))
  f332 := Tryd.func128.trans (congrArg some (by kernel_rfl))
  f343 := Tryd.func144.trans (congrArg some (by kernel_rfl))
  t0 := Tryd.underlying0
  a0 := Tryd.isAgg0
  z0 := Tryd.sizeOf0
  v0 := Tryd.zeroValue0
  t3 := Tryd.underlying3
  a3 := Tryd.isAgg3
  z3 := Tryd.sizeOf3
  v3 := Tryd.zeroValue3
  t4 := Tryd.underlying4
  a4 := Tryd.isAgg4
  z4 := Tryd.sizeOf4
  v4 := Tryd.zeroValue4
  t5 := Tryd.underlying5
  a5 := Tryd.isAgg5
  z5 := Tryd.sizeOf5
  v5 := Tryd.zeroValue5
  t9 := Tryd.underlying9
  a9 := Tryd.isAgg9
  z9 := Tryd.sizeOf9
  v9 := Tryd.zeroValue9
  t28 := Tryd.underlying106
  a28 := Tryd.isAgg106
  z28 := Tryd.sizeOf106
  v28 := Tryd.zeroValue106
  t46 := Tryd.underlying81
  a46 := Tryd.isAgg81
  z46 := Tryd.sizeOf81
  v46 := Tryd.zeroValue81
  t51 := Tryd.underlying174
  a51 := Tryd.isAgg174
  z51 := Tryd.sizeOf174
  v51 := Tryd.zeroValue174
  t53 := Tryd.underlying176
  a53 := Tryd.isAgg176
  z53 := Tryd.sizeOf176
  v53 := Tryd.zeroValue176
  t131 := Tryd.underlying109
  a131 := Tryd.isAgg109
  z131 := Tryd.sizeOf109
  v131 := Tryd.zeroValue109
  t182 := Tryd.underlying167
  a182 := Tryd.isAgg167
  z182 := Tryd.sizeOf167
  v182 := Tryd.zeroValue167
  t183 := Tryd.underlying168
  a183 := Tryd.isAgg168
  z183 := Tryd.sizeOf168
  v183 := Tryd.zeroValue168
  t218 := Tryd.underlying195
  a218 := Tryd.isAgg195
  z218 := Tryd.sizeOf195
  v218 := Tryd.zeroValue195
  t222 := Tryd.underlying199
  a222 := Tryd.isAgg199
  z222 := Tryd.sizeOf199
  v222 := Tryd.zeroValue199
  t228 := Tryd.underlying219
  a228 := Tryd.isAgg219
  z228 := Tryd.sizeOf219
  v228 := Tryd.zeroValue219
  t229 := Tryd.underlying220
  a229 := Tryd.isAgg220
  z229 := Tryd.sizeOf220
  v229 := Tryd.zeroValue220 }
end Go.Proofs
