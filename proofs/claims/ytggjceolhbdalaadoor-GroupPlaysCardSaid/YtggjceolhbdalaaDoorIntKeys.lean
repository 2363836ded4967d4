/- Ints that a call collects and sorts. -/
import Derived.Test.YtggjceolhbdalaaDoorShSortI
import Derived.Test.YtggjceolhbdalaaDoorPlanS
import Derived.Maps.AppendAt
import Derived.OwnWalk
import Derived.Lib.OwnBridge
namespace Go.Proofs.YtggjceolhbdalaaDoor
open Go.RowKit Go.Plan Go.Sort Go.Shelf

theorem infoInt : (Tryd.prog.info? 3).map (fun i => (i.zero, i.size, i.bytes)) = some (some (.int .i64 0), 1, 8) := by kernel_rfl

/-- 'append(v, x)' of one int. -/
theorem run_appendI (W : World) (base nb c : Nat) (v : Value) (acc : List Int) (x : Int) (ty : TypeId) (hown : W.ownsRow base 3 1 v acc.length (acc.map (Value.int .i64)))
    (hx : W.cell? ⟨nb, 0, none⟩ = some (.int .i64 x)) (hl : acc.length < 1000000000) (hb : base ≤ W.heap.size) :
    ∃ v' w', (Builtin.append_ #[106, 106] ty #[v, .slice (some ⟨nb, 0, none⟩) 1 c]).run Tryd.prog W = .ok v' w' ∧ w'.ownsRow base 3 1 v' (acc ++ [x]).length ((acc ++ [x]).map (Value.int .i64)) ∧ W.grownBy w' v.ownBlock ∧
      (v'.ownBlock = v.ownBlock ∨ v'.ownBlock = some W.heap.size) := by
  obtain ⟨i0, hi, hz0, hz1, hz2⟩ := info_parts infoInt
  obtain ⟨v', w', h1, h2, h3, -, h5⟩ := run_append_own_at (P := Tryd.prog) W base 106 ty 3 i0 (.int .i64 0) 1 8 Tryd.underlying106 hi hz0 hz1 hz2 rfl (by decide) v acc.length _ hown ⟨nb, 0, none⟩ 1 c [.int .i64 x] rfl
    (fun j u hj => by
      have hj' : j < 1 := (List.getElem?_eq_some_iff.1 hj).1
      obtain rfl : j = 0 := by omega
      simp only [List.getElem?_cons_zero, Option.some.injEq] at hj
      subst hj
      exact hx) (by intro u hu; obtain rfl := List.mem_singleton.1 hu; rfl) (by unfold maxLen; omega) (by omega) hb
  refine ⟨v', w', h1, ?_, h3, h5⟩
  rw [List.map_append, List.length_append]
  simpa using h2

/-- Ints in the rising order. -/
def sortI (ks : List Int) : List Int := ks.mergeSort fun x y => decide (x ≤ y)
theorem sortI_perm (ks : List Int) : (sortI ks).Perm ks := List.mergeSort_perm _ _
theorem sortI_sorted (ks : List Int) : (sortI ks).Pairwise (· ≤ ·) := by
  have := List.pairwise_mergeSort (le := fun x y : Int => decide (x ≤ y)) (fun a b c h1 h2 => by simp at *; omega) (fun a b => by simp; omega) ks
  exact this.imp (fun h => by simpa using h)
theorem sortedI_unique {xs ys : List Int} (h : xs.Perm ys) (hx : xs.Pairwise (· ≤ ·)) (hy : ys.Pairwise (· ≤ ·)) : xs = ys :=
  h.eq_of_pairwise (fun a b _ _ h1 h2 => Int.le_antisymm h1 h2) hx hy
theorem sortI_of_perm {xs ys : List Int} (h : xs.Perm ys) : sortI xs = sortI ys :=
  sortedI_unique ((sortI_perm xs).trans (h.trans (sortI_perm ys).symm)) (sortI_sorted xs) (sortI_sorted ys)
theorem sortI_length (ks : List Int) : (sortI ks).length = ks.length := (sortI_perm ks).length_eq

/-- A slice that holds these ints. -/
def IntsIn (w : World) (p : Option Addr) (ks : List Int) : Prop := ks = [] ∨ ∃ g, p = some ⟨g, 0, none⟩ ∧ g < w.heap.size ∧ ∀ j, j < ks.length → w.cell? ⟨g, j, none⟩ = some (.int .i64 (ks.getD j 0))
theorem IntsIn.of {w w' : World} {p : Option Addr} {ks : List Int} (h : IntsIn w p ks) (hx : Ext w w') : IntsIn w' p ks := by
  rcases h with h | ⟨g, h1, h2, h3⟩
  · exact .inl h
  · exact .inr ⟨g, h1, Nat.lt_of_lt_of_le h2 hx.size, fun j hj => (hx.cell (p := ⟨g, j, none⟩) h2 id).trans (h3 j hj)⟩

theorem sortI_c (base : Nat) (v : Value) (ks : List Int) (w : World) (hown : w.ownsRow base 3 1 v ks.length (ks.map (Value.int .i64))) (hl : ks.length < 1000000000) :
    Calls Tryd.prog 41 #[v] w fun e w' => e = .returned (.tuple #[]) ∧ ExtR v.ownBlock w w' ∧ ∃ p cap, v = .slice p ks.length cap ∧ IntsIn w' p (sortI ks) := by
  by_cases hv : v = .slice none 0 0
  · subst hv
    have h0 : ks = [] := by
      rcases hown.2 with ⟨-, h⟩ | ⟨g, cap, cur, h, -⟩
      · exact List.eq_nil_of_length_eq_zero h
      · cases h
    subst h0
    exact (Any.slices_Sort_int_none Tryd.shSortI none 0 w).mono fun e w' ⟨he, hw⟩ => ⟨he, hw ▸ ExtR.refl _, none, 0, rfl, .inl (List.eq_nil_of_length_eq_zero (by rw [sortI_length]; rfl))⟩
  · obtain ⟨g, cap, rfl, -, hg, -, -, -, hH⟩ := Lib.holds_of_ownsRow hown hv
    refine (Any.slices_Sort_int Tryd.shSortI g 0 cap ks w hH hg (by omega)).mono fun e w' ⟨he, n, os, hw⟩ => ?_
    have hs : (sortI ks).toArray.size = ks.toArray.size := by simp [sortI_length]
    have hw' : w' = grow (putRow (Value.int .i64) (Sort.ahead w n) g 0 (sortI ks).toArray) os := hw
    have hH2 : Holds (Value.int .i64) w' g 0 (sortI ks).toArray := by
      rw [hw']
      exact holds_grow _ _ _ _ _ _ (by simpa [putRow, mapBlock, Sort.ahead] using hg) (holds_putRow _ _ _ _ _ _ (holds_ahead _ _ _ _ _ _ hH) hs)
    have hx : ExtR (some g) w w' := by
      rw [hw']
      refine ⟨rfl, rfl, rfl, by simp [grow, putRow, mapBlock, Sort.ahead], fun k hk hne => ?_⟩
      have : g ≠ k := fun e => hne (by rw [e])
      rw [heap_grow_old _ _ (by simpa [putRow, mapBlock, Sort.ahead] using hk)]
      simp [putRow, mapBlock, Sort.ahead, Array.getElem?_modify, this]
    refine ⟨he, hx, some ⟨g, 0, none⟩, cap, rfl, .inr ⟨g, rfl, Nat.lt_of_lt_of_le hg hx.size, fun j hj => ?_⟩⟩
    have := (hH2 j (by simpa using hj)).1
    rw [Nat.zero_add] at this
    rw [this]
    simp [List.getD, hj]
end Go.Proofs.YtggjceolhbdalaaDoor
