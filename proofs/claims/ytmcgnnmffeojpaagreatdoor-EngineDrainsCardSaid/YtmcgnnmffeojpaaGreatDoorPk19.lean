/- Ints that a call collects and sorts. -/
import Derived.Test.YtmcgnnmffeojpaaGreatDoorPk3
import Derived.Shelf.Sort.Plain
import Derived.Shelf.Slices.In.SortNone
import Derived.Ground.NamesProg
import Derived.Test.YtmcgnnmffeojpaaGreatDoorProg
import Derived.Maps.AppendAt
import Derived.OwnWalk
import Derived.Lib.OwnBridge
/-
  DERIVED: THE SHELF's CONTRACTS AT THIS DUMP, IN PLAIN WORDS (tools/lay-plain.mjs out of 'YtmcgnnmffeojpaaGreatDoorLayScratch.lean', which tools/lay-shelf.mjs wrote): THE SAME DECLARATIONS UNDER THE SAME NAMES: 'import', 'namespace', 'open', 'def', 'theorem' AND NOTHING ELSE: no command of the shelf's: FOR A HAND-IN. Each laying: the table of numbers ('.._ren') and one theorem, a field a fact of the dump's own or the kernel's comparison; each contract: ONE APPLICATION.
-/
namespace Go.Proofs
open Go.Shelf
def Tryz.shSortI_ren : Go.Shelf.Ren := ⟨fun | 189 => 45 | 125 => 71 | 257 => 70 | 128 => 109 | 129 => 110 | 294 => 101 | 295 => 102 | 296 => 103 | 297 => 104 | 298 => 105 | 299 => 106 | 216 => 66 | 300 => 107 | 301 => 108 | 328 => 137 | 329 => 138 | 330 => 139 | 331 => 140 | 332 => 141 | 215 => 99 | 343 => 161 | n => n, fun | 28 => 52 | 3 => 3 | 46 => 89 | 0 => 0 | 51 => 198 | 53 => 200 | 4 => 4 | 183 => 192 | 182 => 191 | 131 => 107 | 5 => 5 | 9 => 9 | 218 => 221 | 222 => 225 | 228 => 246 | 229 => 156 | n => n, fun | n => n⟩
theorem Tryz.shSortI : Go.Proofs.Lays.n189 Tryz.prog Tryz.shSortI_ren := {
  mixed := by kernel_rfl
  f125 := Tryz.func71.trans (congrArg some (by kernel_rfl))
  f128 := Tryz.func109.trans (congrArg some (by kernel_rfl))
  f129 := Tryz.func110.trans (congrArg some (by kernel_rfl))
  f189 := Tryz.func45.trans (congrArg some (by kernel_rfl))
  f215 := Tryz.func99.trans (congrArg some (by kernel_rfl))
  f216 := Tryz.func66.trans (congrArg some (by kernel_rfl))
  f257 := Tryz.func70.trans (congrArg some (by kernel_rfl))
  f294 := Tryz.func101.trans (congrArg some (by kernel_rfl))
  f295 := Tryz.func102.trans (congrArg some (by kernel_rfl))
  f296 := Tryz.func103.trans (congrArg some (by kernel_rfl))
  f297 := Tryz.func104.trans (congrArg some (by kernel_rfl))
  f298 := Tryz.func105.trans (congrArg some (by kernel_rfl))
  f299 := Tryz.func106.trans (congrArg some (by kernel_rfl))
  f300 := Tryz.func107.trans (congrArg some (by kernel_rfl))
  f301 := Tryz.func108.trans (congrArg some (by kernel_rfl))
  f328 := Tryz.func137.trans (congrArg some (by kernel_rfl))
  f329 := Tryz.func138.trans (congrArg some (by kernel_rfl))
  f330 := Tryz.func139.trans (congrArg some (by kernel_rfl))
  f331 := Tryz.func140.trans (congrArg some (by kernel_rfl))
  f332 := Tryz.func141.trans (congrArg some (by kernel_rfl))
  f343 := Tryz.func161.trans (congrArg some (by kernel_rfl))
  t0 := Tryz.underlying0
  a0 := Tryz.isAgg0
  z0 := Tryz.sizeOf0
  v0 := Tryz.zeroValue0
  t3 := Tryz.underlying3
  a3 := Tryz.isAgg3
  z3 := Tryz.sizeOf3
  v3 := Tryz.zeroValue3
  t4 := Tryz.underlying4
  a4 := Tryz.isAgg4
  z4 := Tryz.sizeOf4
  v4 := Tryz.zeroValue4
  t5 := Tryz.underlying5
  a5 := Tryz.isAgg5
  z5 := Tryz.sizeOf5
  v5 := Tryz.zeroValue5
  t9 := Tryz.underlying9
  a9 := Tryz.isAgg9
  z9 := Tryz.sizeOf9
  v9 := Tryz.zeroValue9
  t28 := Tryz.underlying52
  a28 := Tryz.isAgg52
  z28 := Tryz.sizeOf52
  v28 := Tryz.zeroValue52
  t46 := Tryz.underlying89
  a46 := Tryz.isAgg89
  z46 := Tryz.sizeOf89
  v46 := Tryz.zeroValue89
  t51 := Tryz.underlying198
  a51 := Tryz.isAgg198
  z51 := Tryz.sizeOf198
  v51 := Tryz.zeroValue198
  t53 := Tryz.underlying200
  a53 := Tryz.isAgg200
  z53 := Tryz.sizeOf200
  v53 := Tryz.zeroValue200
  t131 := Tryz.underlying107
  a131 := Tryz.isAgg107
  z131 := Tryz.sizeOf107
  v131 := Tryz.zeroValue107
  t182 := Tryz.underlying191
  a182 := Tryz.isAgg191
  z182 := Tryz.sizeOf191
  v182 := Tryz.zeroValue191
  t183 := Tryz.underlying192
  a183 := Tryz.isAgg192
  z183 := Tryz.sizeOf192
  v183 := Tryz.zeroValue192
  t218 := Tryz.underlying221
  a218 := Tryz.isAgg221
  z218 := Tryz.sizeOf221
  v218 := Tryz.zeroValue221
  t222 := Tryz.underlying225
  a222 := Tryz.isAgg225
  z222 := Tryz.sizeOf225
  v222 := Tryz.zeroValue225
  t228 := Tryz.underlying246
  a228 := Tryz.isAgg246
  z228 := Tryz.sizeOf246
  v228 := Tryz.zeroValue246
  t229 := Tryz.underlying156
  a229 := Tryz.isAgg156
  z229 := Tryz.sizeOf156
  v229 := Tryz.zeroValue156 }
end Go.Proofs
namespace Go.Proofs.YtmcgnnmffeojpaaGreatDoor
open Go.RowKit Go.Plan Go.Sort Go.Shelf

theorem infoInt : (Tryz.prog.info? 3).map (fun i => (i.zero, i.size, i.bytes)) = some (some (.int .i64 0), 1, 8) := by kernel_rfl

/-- 'append(v, x)' of one int. -/
theorem run_appendI (W : World) (base nb c : Nat) (v : Value) (acc : List Int) (x : Int) (ty : TypeId) (hown : W.ownsRow base 3 1 v acc.length (acc.map (Value.int .i64)))
    (hx : W.cell? ⟨nb, 0, none⟩ = some (.int .i64 x)) (hl : acc.length < 1000000000) (hb : base ≤ W.heap.size) :
    ∃ v' w', (Builtin.append_ #[52, 52] ty #[v, .slice (some ⟨nb, 0, none⟩) 1 c]).run Tryz.prog W = .ok v' w' ∧ w'.ownsRow base 3 1 v' (acc ++ [x]).length ((acc ++ [x]).map (Value.int .i64)) ∧ W.grownBy w' v.ownBlock ∧
      (v'.ownBlock = v.ownBlock ∨ v'.ownBlock = some W.heap.size) := by
  obtain ⟨i0, hi, hz0, hz1, hz2⟩ := info_parts infoInt
  obtain ⟨v', w', h1, h2, h3, -, h5⟩ := run_append_own_at (P := Tryz.prog) W base 52 ty 3 i0 (.int .i64 0) 1 8 Tryz.underlying52 hi hz0 hz1 hz2 rfl (by decide) v acc.length _ hown ⟨nb, 0, none⟩ 1 c [.int .i64 x] rfl
    (fun j u hj => by
      have hj' : j < 1 := (List.getElem?_eq_some_iff.1 hj).1
      obtain rfl : j = 0 := by omega
      simp only [List.getElem?_cons_zero, Option.some.injEq] at hj
      subst hj
      exact hx) (by intro u hu; obtain rfl := List.mem_singleton.1 hu; rfl) (by unfold maxLen; omega) (by omega) hb
  refine ⟨v', w', h1, ?_, h3, h5⟩
  rw [List.map_append, List.length_append]
  simpa using h2

/-- Ints in the rising order. -/
def sortI (ks : List Int) : List Int := ks.mergeSort fun x y => decide (x ≤ y)
theorem sortI_perm (ks : List Int) : (sortI ks).Perm ks := List.mergeSort_perm _ _
theorem sortI_sorted (ks : List Int) : (sortI ks).Pairwise (· ≤ ·) := by
  have := List.pairwise_mergeSort (le := fun x y : Int => decide (x ≤ y)) (fun a b c h1 h2 => by simp at *; omega) (fun a b => by simp; omega) ks
  exact this.imp (fun h => by simpa using h)
theorem sortedI_unique {xs ys : List Int} (h : xs.Perm ys) (hx : xs.Pairwise (· ≤ ·)) (hy : ys.Pairwise (· ≤ ·)) : xs = ys :=
  h.eq_of_pairwise (fun _a _b _ _ h1 h2 => Int.le_antisymm h1 h2) hx hy
theorem sortI_of_perm {xs ys : List Int} (h : xs.Perm ys) : sortI xs = sortI ys :=
  sortedI_unique ((sortI_perm xs).trans (h.trans (sortI_perm ys).symm)) (sortI_sorted xs) (sortI_sorted ys)
theorem sortI_length (ks : List Int) : (sortI ks).length = ks.length := (sortI_perm ks).length_eq

/-- A slice that holds these ints. -/
def IntsIn (w : World) (p : Option Addr) (ks : List Int) : Prop := ks = [] ∨ ∃ g, p = some ⟨g, 0, none⟩ ∧ g < w.heap.size ∧ ∀ j, j < ks.length → w.cell? ⟨g, j, none⟩ = some (.int .i64 (ks.getD j 0))
theorem IntsIn.of {w w' : World} {p : Option Addr} {ks : List Int} (h : IntsIn w p ks) (hx : Ext w w') : IntsIn w' p ks := by
  rcases h with h | ⟨g, h1, h2, h3⟩
  · exact .inl h
  · exact .inr ⟨g, h1, Nat.lt_of_lt_of_le h2 hx.size, fun j hj => (hx.cell (p := ⟨g, j, none⟩) h2 id).trans (h3 j hj)⟩

theorem sortI_c (base : Nat) (v : Value) (ks : List Int) (w : World) (hown : w.ownsRow base 3 1 v ks.length (ks.map (Value.int .i64))) (hl : ks.length < 1000000000) :
    Calls Tryz.prog 45 #[v] w fun e w' => e = .returned (.tuple #[]) ∧ ExtR v.ownBlock w w' ∧ ∃ p cap, v = .slice p ks.length cap ∧ IntsIn w' p (sortI ks) := by
  by_cases hv : v = .slice none 0 0
  · subst hv
    have h0 : ks = [] := by
      rcases hown.2 with ⟨-, h⟩ | ⟨g, cap, cur, h, -⟩
      · exact List.eq_nil_of_length_eq_zero h
      · cases h
    subst h0
    exact (Any.slices_Sort_int_none Tryz.shSortI none 0 w).mono fun e w' ⟨he, hw⟩ => ⟨he, hw ▸ ExtR.refl _, none, 0, rfl, .inl (List.eq_nil_of_length_eq_zero (by rw [sortI_length]; rfl))⟩
  · obtain ⟨g, cap, rfl, -, hg, -, -, -, hH⟩ := Lib.holds_of_ownsRow hown hv
    refine (Any.slices_Sort_int Tryz.shSortI g 0 cap ks w hH hg (by omega)).mono fun e w' ⟨he, n, os, hw⟩ => ?_
    have hs : (sortI ks).toArray.size = ks.toArray.size := by simp [sortI_length]
    have hw' : w' = grow (putRow (Value.int .i64) (Sort.ahead w n) g 0 (sortI ks).toArray) os := hw
    have hH2 : Holds (Value.int .i64) w' g 0 (sortI ks).toArray := by
      rw [hw']
      exact holds_grow _ _ _ _ _ _ (by simpa [putRow, mapBlock, Sort.ahead] using hg) (holds_putRow _ _ _ _ _ _ (holds_ahead _ _ _ _ _ _ hH) hs)
    have hx : ExtR (some g) w w' := by
      rw [hw']
      refine ⟨rfl, rfl, rfl, by simp [grow, putRow, mapBlock, Sort.ahead], fun k hk hne => ?_⟩
      have : g ≠ k := fun e => hne (by rw [e])
      rw [heap_grow_old _ _ (by simpa [putRow, mapBlock, Sort.ahead] using hk)]
      simp [putRow, mapBlock, Sort.ahead, Array.getElem?_modify, this]
    refine ⟨he, hx, some ⟨g, 0, none⟩, cap, rfl, .inr ⟨g, rfl, Nat.lt_of_lt_of_le hg hx.size, fun j hj => ?_⟩⟩
    have := (hH2 j (by simpa using hj)).1
    rw [Nat.zero_add] at this
    rw [this]
    simp [List.getD, hj]
end Go.Proofs.YtmcgnnmffeojpaaGreatDoor
