/- sort.SliceStable of a row of Outs, whatever the less lays. -/
import Derived.Test.YtggjceolhbdalaaDoorSStab3
import Derived.Test.YtggjceolhbdalaaDoorShStab
import Derived.Test.YtggjceolhbdalaaDoorOutSort
import Derived.Shelf.GgSortMore.Stable
import Derived.Shelf.GgSortFunc.SmallK
namespace Go.Proofs.YtggjceolhbdalaaDoor
open Go.RowKit Go.Plan Go.Sort

theorem grow_extS (w : World) (os : Array Obj) : Ext w (grow w os) := by
  refine ⟨rfl, rfl, rfl, by rw [size_grow]; omega, fun k hk _ => ?_⟩
  unfold grow
  simp only
  rw [Array.getElem?_append_left hk]
theorem ext_setCells (b : Nat) : ∀ (xs : List Value) (o : Nat) (w : World), ExtM (fun k => k = b) w (w.setCells b o xs)
  | [], _, w => ExtM.refl w
  | v :: r, o, w => ExtM.trans _ _ _ (ExtM.setCell (M := fun k => k = b) (ExtM.refl w) (p := ⟨b, o, none⟩) (.inr rfl) v) (ext_setCells b r (o + 1) _)

instance : Inhabited Out := ⟨⟨0, ⟨0, 0, 0⟩, ⟨0, 0, 0⟩, false, false⟩⟩
theorem stInfoOuts : (Tryd.prog.info? 41).map (fun i => i.desc) = some (.slice 45) := by kernel_rfl
theorem stInfoOut : (Tryd.prog.info? 45).map (fun i => (i.size, i.bytes, i.hasPointers)) = some (9, 64, false) := by kernel_rfl
theorem stPacked : Tryd.prog.packed 41 = false := by kernel_rfl
theorem stKind (w : World) : (Extern.Rtype.kind 45).run Tryd.prog w = .ok 25 w := by kernel_rfl
theorem stSwapper1 : Tryd.prog.funcs.findIdx? (·.name == "internal/reflectlite" ++ ".Swapper$" ++ toString 1) = some 107 := by kernel_rfl
theorem stSwapper2 : Tryd.prog.funcs.findIdx? (·.name == "internal/reflectlite" ++ ".Swapper$" ++ toString 2) = some 108 := by kernel_rfl
theorem stSwapper9 : Tryd.prog.funcs.findIdx? (·.name == "internal/reflectlite" ++ ".Swapper$" ++ toString 9) = some 115 := by kernel_rfl
theorem stLit9 (args : Array Value) (W : World) : (callFunc 115 args).run Tryd.prog W = ((Extern.ReflectliteSwapper.swap false args).run Tryd.prog W).andThen fun v w' => .ok (.value v) w' :=
  run_callFunc_extern Tryd.func115 (by kernel_rfl) (by kernel_rfl) (by kernel_rfl) (by kernel_rfl) args W

set_option maxRecDepth 100000 in
theorem stableO_c {lt : Out → Out → Bool} (hO : SWO lt) (g : Nat) (lb : Array Value) (blk cap : Nat) (d : Array Out) (w : World) (hn : d.size < 1000000) (eg : ∀ args w, (callFunc g args).run Tryd.prog w = .ok (.enter g args) w) (hH : HoldsK Out.cells 9 w blk 0 d) (hblk : blk < w.heap.size)
    (hless : ∀ (D : Array Out) (W : World) (i j : Nat), D.size = d.size → HoldsK Out.cells 9 W blk 0 D → ExtM (fun k => k = blk) w W → i < d.size → j < d.size → Calls Tryd.prog g (#[.int .i64 i, .int .i64 j] ++ lb) W fun e w' => e = .returned (.bool (lt D[i]! D[j]!)) ∧ Ext W w') :
    Calls Tryd.prog 45 #[.iface 41 (.slice (some ⟨blk, 0, none⟩) d.size cap), .func (.func g) #[] lb] w fun e w' => e = .returned (.tuple #[]) ∧ ∃ d', PermIn 0 d.size d d' ∧ SortedIn lt 0 d.size d' ∧ HoldsK Out.cells 9 w' blk 0 d' ∧ ExtM (fun k => k = blk) w w' := by
  obtain ⟨i, hi, hd⟩ : ∃ i, Tryd.prog.info? 41 = some i ∧ i.desc = .slice 45 := by
    have h := stInfoOuts
    cases h2 : Tryd.prog.info? 41 with
    | none => rw [h2] at h; simp at h
    | some i => rw [h2] at h; exact ⟨i, rfl, by simpa using h⟩
  obtain ⟨ie, hie, hs1, hs8, hsp⟩ : ∃ i, Tryd.prog.info? 45 = some i ∧ i.size = 9 ∧ i.bytes = 64 ∧ i.hasPointers = false := by
    have h := stInfoOut
    cases h2 : Tryd.prog.info? 45 with
    | none => rw [h2] at h; simp at h
    | some i => rw [h2] at h; simp at h; exact ⟨i, rfl, h⟩
  have keep : ∀ (D : Array Out) (W W' : World) (B : Nat), HoldsK Out.cells 9 W blk 0 D → blk < W.heap.size → ExtM (fun k => B ≤ k) W W' → blk < B → HoldsK Out.cells 9 W' blk 0 D := fun D W W' B h hb hx hB k hk =>
    ⟨(hx.cell (p := ⟨blk, 0 + k, none⟩) hb (by simp; exact hB)).trans (h k hk).1, (hx.frozen (p := ⟨blk, 0 + k, none⟩) hb (by simp; exact hB)).trans (h k hk).2⟩
  by_cases h2 : d.size ≤ 1
  · have ht := Any.sort_SliceStable_tiny Tryd.shStab 41 45 i ie hi hd stPacked hie 25 stKind (some ⟨blk, 0, none⟩) d.size cap h2 (if d.size = 0 then 107 else 108)
      (by
        by_cases h0 : d.size = 0
        · rw [h0]; exact stSwapper1
        · rw [show d.size = 1 by omega]; exact stSwapper2) (.func g) #[] lb w
    refine ht.mono ?_
    rintro e w' ⟨he, os, rfl⟩
    have hx := grow_extS w os
    exact ⟨he, d, permIn_refl _ _ _, fun x y h1 h2' h3 => by omega, keep d w _ w.heap.size hH hblk (hx.mono (fun _ _ h => h.elim)) hblk, hx.mono (fun _ _ h => h.elim)⟩
  · have hK : Lib.swapperK d.size ie 25 = 9 := by
      unfold Lib.swapperK
      simp [hs8, hsp, show d.size ≠ 0 by omega, show d.size ≠ 1 by omega]
    refine Any.sort_SliceStable_of_stable Tryd.shStab 41 45 i ie hi hd stPacked hie 25 stKind (some ⟨blk, 0, none⟩) d.size cap (by omega) 115 (by rw [hK]; exact stSwapper9) (.func g) #[] lb w _ ?_
    have hB : sliceBound Tryd.prog 45 ie 25 (some ⟨blk, 0, none⟩) d.size cap = #[.slice (some ⟨blk, 0, none⟩) d.size cap, Go.typeHandle Tryd.prog 45] := by
      unfold sliceBound; rw [if_neg (swapperK_gt _ _ _ (by omega))]
    rw [hB]
    have hsw := swapSwapsK_of_literal (P := Tryd.prog) false 115 stLit9 45 ie hie Out.cells 9 outCells_len hs1 isAggOut outCells_one blk 0 d.size cap
    have I : SIf d.size lt g lb 115 #[.slice (some ⟨blk, 0, none⟩) d.size cap, Go.typeHandle Tryd.prog 45] blk (fun D W => D.size = d.size ∧ HoldsK Out.cells 9 W blk 0 D ∧ ExtM (fun k => k = blk) w W) := by
      refine ⟨⟨w.heap.size, fun D W h => h.2.2.size, hblk, fun D W W' h hx => ⟨h.1, keep D W W' w.heap.size h.2.1 (Nat.lt_of_lt_of_le hblk h.2.2.size) hx hblk, ?_⟩⟩, eg, fun D W i j hs h hi hj => hless D W i j hs h.2.1 h.2.2 hi hj, fun D W i j hs h hi hj => ?_⟩
      · have h4 := h.2.2
        exact ⟨hx.os.trans h4.os, hx.tape.trans h4.tape, hx.output.trans h4.output, Nat.le_trans h4.size hx.size, fun k hk hn => (hx.block k (Nat.lt_of_lt_of_le hk h4.size) (by omega)).trans (h4.block k hk hn)⟩
      · have hxs : ExtM (fun k => k = blk) W ((W.setCells blk (0 + i * 9) (D[j]!).cells).setCells blk (0 + j * 9) (D[i]!).cells) := ExtM.trans _ _ _ (ext_setCells blk _ _ _) (ext_setCells blk _ _ _)
        refine ⟨_, hsw W D h.2.1 hs i j hi hj, ⟨by rw [size_swp]; exact hs, ?_, ExtM.trans _ _ _ h.2.2 hxs⟩, hxs⟩
        have e := swap_worldK Out.cells 9 outCells_len W 0 0 blk 0 D i j (by omega) (by omega)
        rw [show putRowK Out.cells 9 (Sort.ahead W 0) blk 0 D = W from putRowK_self Out.cells 9 W blk 0 D h.2.1] at e
        rw [show (W.setCells blk (0 + i * 9) (D[j]!).cells).setCells blk (0 + j * 9) (D[i]!).cells = putRowK Out.cells 9 W blk 0 (swp D i j) from e]
        exact holdsK_putRowK Out.cells 9 W blk 0 D (swp D i j) h.2.1 (size_swp _ _ _)
    have hx0 : Ext w (stableWorld Tryd.prog Tryd.shStab_ren 41 (some ⟨blk, 0, none⟩) d.size cap w) := ((ExtM.refl w).alloc _).alloc _
    have hH0 : d.size = d.size ∧ HoldsK Out.cells 9 (stableWorld Tryd.prog Tryd.shStab_ren 41 (some ⟨blk, 0, none⟩) d.size cap w) blk 0 d ∧ ExtM (fun k => k = blk) w (stableWorld Tryd.prog Tryd.shStab_ren 41 (some ⟨blk, 0, none⟩) d.size cap w) :=
      ⟨rfl, keep d w _ w.heap.size hH hblk (hx0.mono (fun _ _ h => h.elim)) hblk, hx0.mono (fun _ _ h => h.elim)⟩
    refine (stable_c I hO hn d _ hH0 rfl).mono ?_
    rintro e w' ⟨he, d', h1, h2, h3, h4, h5⟩
    exact ⟨he, d', h2, h3, h4.2.1, h4.2.2⟩

/-- The nil slice, or an empty one. -/
theorem stableO0_c (p : Option Addr) (cap : Nat) (lf : Fn) (la lb : Array Value) (w : World) :
    Calls Tryd.prog 45 #[.iface 41 (.slice p 0 cap), .func lf la lb] w fun e w' => e = .returned (.tuple #[]) ∧ Ext w w' := by
  obtain ⟨i, hi, hd⟩ : ∃ i, Tryd.prog.info? 41 = some i ∧ i.desc = .slice 45 := by
    have h := stInfoOuts
    cases h2 : Tryd.prog.info? 41 with
    | none => rw [h2] at h; simp at h
    | some i => rw [h2] at h; exact ⟨i, rfl, by simpa using h⟩
  obtain ⟨ie, hie⟩ : ∃ i, Tryd.prog.info? 45 = some i := by
    have h := stInfoOut
    cases h2 : Tryd.prog.info? 45 with
    | none => rw [h2] at h; simp at h
    | some i => exact ⟨i, rfl⟩
  refine (Any.sort_SliceStable_tiny Tryd.shStab 41 45 i ie hi hd stPacked hie 25 stKind p 0 cap (by omega) 107 stSwapper1 lf la lb w).mono ?_
  rintro e w' ⟨he, os, rfl⟩
  exact ⟨he, grow_extS w os⟩
end Go.Proofs.YtggjceolhbdalaaDoor
