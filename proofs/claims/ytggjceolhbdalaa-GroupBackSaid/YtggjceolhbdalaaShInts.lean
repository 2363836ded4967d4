/-
  DERIVED: THE SHELF's CONTRACTS AT THIS DUMP, IN PLAIN WORDS (tools/lay-plain.mjs out of 'YtggjceolhbdalaaLayScratch.lean', which tools/lay-shelf.mjs wrote): THE SAME DECLARATIONS UNDER THE SAME NAMES: 'import', 'namespace', 'open', 'def', 'theorem' AND NOTHING ELSE: no command of the shelf's: FOR A HAND-IN. Each laying: the table of numbers ('.._ren') and one theorem, a field a fact of the dump's own or the kernel's comparison; each contract: ONE APPLICATION.
-/
import Derived.Shelf.Spec.SlicesInsertGrow
import Derived.Shelf.Spec.SlicesInsert
import Derived.Shelf.Slices.SearchI
import Derived.Shelf.Slices.Delete
import Derived.Shelf.Slices.Cells
import Derived.Shelf.Slices.Empties
import Derived.Ground.Names2Prog
import Derived.Test.YtggjceolhbdalaaProg
namespace Go.Proofs
open Go.Shelf
def Try.shSearch_ren : Go.Shelf.Ren := ⟨fun | 25 => 19 | 31 => 29 | 32 => 30 | 37 => 44 | n => n, fun | 22 => 59 | 3 => 3 | 4 => 4 | 40 => 51 | 0 => 0 | n => n, fun | n => n⟩
theorem Try.shSearch : Go.Proofs.Lays2.n25 Try.prog Try.shSearch_ren := {
  mixed := by kernel_rfl
  f25 := Try.func19.trans (congrArg some (by kernel_rfl))
  f31 := Try.func29.trans (congrArg some (by kernel_rfl))
  f32 := Try.func30.trans (congrArg some (by kernel_rfl))
  f37 := Try.func44.trans (congrArg some (by kernel_rfl))
  t0 := Try.underlying0
  a0 := Try.isAgg0
  z0 := Try.sizeOf0
  v0 := Try.zeroValue0
  t3 := Try.underlying3
  a3 := Try.isAgg3
  z3 := Try.sizeOf3
  v3 := Try.zeroValue3
  t4 := Try.underlying4
  a4 := Try.isAgg4
  z4 := Try.sizeOf4
  v4 := Try.zeroValue4
  t22 := Try.underlying59
  a22 := Try.isAgg59
  z22 := Try.sizeOf59
  v22 := Try.zeroValue59
  t40 := Try.underlying51
  a40 := Try.isAgg51
  z40 := Try.sizeOf51
  v40 := Try.zeroValue51 }
def Try.shDelete_ren : Go.Shelf.Ren := ⟨fun | 23 => 28 | n => n, fun | 22 => 59 | 3 => 3 | 4 => 4 | 0 => 0 | n => n, fun | n => n⟩
theorem Try.shDelete : Go.Proofs.Lays2.n23 Try.prog Try.shDelete_ren := {
  mixed := by kernel_rfl
  f23 := Try.func28.trans (congrArg some (by kernel_rfl))
  t0 := Try.underlying0
  a0 := Try.isAgg0
  z0 := Try.sizeOf0
  v0 := Try.zeroValue0
  t3 := Try.underlying3
  a3 := Try.isAgg3
  z3 := Try.sizeOf3
  v3 := Try.zeroValue3
  t4 := Try.underlying4
  a4 := Try.isAgg4
  z4 := Try.sizeOf4
  v4 := Try.zeroValue4
  t22 := Try.underlying59
  a22 := Try.isAgg59
  z22 := Try.sizeOf59
  v22 := Try.zeroValue59
  i3 := by kernel_rfl }
def Try.shInsert_ren : Go.Shelf.Ren := ⟨fun | 21 => 20 | 27 => 31 | 28 => 32 | 35 => 45 | 39 => 59 | n => n, fun | 22 => 59 | 3 => 3 | 4 => 4 | 0 => 0 | n => n, fun | n => n⟩
theorem Try.shInsert : Go.Proofs.Lays2.n21 Try.prog Try.shInsert_ren := {
  mixed := by kernel_rfl
  f21 := Try.func20.trans (congrArg some (by kernel_rfl))
  f27 := Try.func31.trans (congrArg some (by kernel_rfl))
  f28 := Try.func32.trans (congrArg some (by kernel_rfl))
  f35 := Try.func45.trans (congrArg some (by kernel_rfl))
  f39 := Try.func59.trans (congrArg some (by kernel_rfl))
  t0 := Try.underlying0
  a0 := Try.isAgg0
  z0 := Try.sizeOf0
  v0 := Try.zeroValue0
  t3 := Try.underlying3
  a3 := Try.isAgg3
  z3 := Try.sizeOf3
  v3 := Try.zeroValue3
  t4 := Try.underlying4
  a4 := Try.isAgg4
  z4 := Try.sizeOf4
  v4 := Try.zeroValue4
  t22 := Try.underlying59
  a22 := Try.isAgg59
  z22 := Try.sizeOf59
  v22 := Try.zeroValue59
  i3 := by kernel_rfl }
end Go.Proofs
