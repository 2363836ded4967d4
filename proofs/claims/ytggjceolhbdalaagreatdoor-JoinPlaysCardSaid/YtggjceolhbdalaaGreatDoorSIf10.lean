/- sort.Slice of a row of ints, whatever the less lays. -/
import Derived.Test.YtggjceolhbdalaaGreatDoorSIf9
import Derived.Test.YtggjceolhbdalaaGreatDoorSymP
import Derived.Shelf.GgSortFunc.Whole
import Derived.Shelf.GgSortFunc.Tiny
namespace Go.Proofs.YtggjceolhbdalaaGreatDoor
open Go.RowKit Go.Plan Go.Sort

theorem grow_ext (w : World) (os : Array Obj) : Ext w (grow w os) := by
  refine ⟨rfl, rfl, rfl, by rw [size_grow]; omega, fun k hk _ => ?_⟩
  unfold grow
  simp only
  rw [Array.getElem?_append_left hk]
theorem ext_setCellM {M : Nat → Prop} {w : World} {b o : Nat} (h : M b) (u : Value) : ExtM M w (w.setCell ⟨b, o, none⟩ u) := ExtM.setCell (M := M) (ExtM.refl w) (p := ⟨b, o, none⟩) (.inr h) u

theorem sInfoInts : (Tryz.prog.info? 77).map (fun i => i.desc) = some (.slice 3) := by kernel_rfl
theorem sInfoInt : (Tryz.prog.info? 3).map (fun i => (i.size, i.bytes, i.hasPointers)) = some (1, 8, false) := by kernel_rfl
theorem sPackedInts : Tryz.prog.packed 77 = false := by kernel_rfl
theorem sKindInt (w : World) : (Extern.Rtype.kind 3).run Tryz.prog w = .ok 2 w := by kernel_rfl
theorem sIsAggInt (w : World) : (isAgg 3).run Tryz.prog w = .ok false w := by kernel_rfl
theorem swapper1 : Tryz.prog.funcs.findIdx? (·.name == "internal/reflectlite" ++ ".Swapper$" ++ toString 1) = some 70 := by kernel_rfl
theorem swapper2 : Tryz.prog.funcs.findIdx? (·.name == "internal/reflectlite" ++ ".Swapper$" ++ toString 2) = some 71 := by kernel_rfl
theorem swapper5 : Tryz.prog.funcs.findIdx? (·.name == "internal/reflectlite" ++ ".Swapper$" ++ toString 5) = some 74 := by kernel_rfl
theorem swapLit5 (args : Array Value) (W : World) : (callFunc 74 args).run Tryz.prog W = ((Extern.ReflectliteSwapper.swap true args).run Tryz.prog W).andThen fun v w' => .ok (.value v) w' :=
  run_callFunc_extern Tryz.func74 (by kernel_rfl) (by kernel_rfl) (by kernel_rfl) (by kernel_rfl) args W

/-- What a sort holds on to: the row's ints, each as P says; and that nothing else that was has turned. -/
def HInts (P : Int → Prop) (blk n : Nat) (W0 : World) (d : Array Int) (W : World) : Prop := Holds (Value.int .i64) W blk 0 d ∧ (∀ k, k < n → P d[k]!) ∧ ExtM (fun k => k = blk) W0 W

set_option maxRecDepth 100000 in
theorem sliceI_c {P : Int → Prop} {lt : Int → Int → Bool} (hO : SWO lt) (g : Nat) (lb : Array Value) (blk cap : Nat) (d : Array Int) (w : World) (hn : d.size < 1000000) (eg : ∀ args w, (callFunc g args).run Tryz.prog w = .ok (.enter g args) w) (hH : Holds (Value.int .i64) w blk 0 d) (hP : ∀ k, k < d.size → P d[k]!) (hblk : blk < w.heap.size)
    (hless : ∀ (D : Array Int) (W : World) (i j : Nat), D.size = d.size → HInts P blk d.size w D W → i < d.size → j < d.size → Calls Tryz.prog g (#[.int .i64 i, .int .i64 j] ++ lb) W fun e w' => e = .returned (.bool (lt D[i]! D[j]!)) ∧ Ext W w') :
    Calls Tryz.prog 47 #[.iface 77 (.slice (some ⟨blk, 0, none⟩) d.size cap), .func (.func g) #[] lb] w fun e w' => e = .returned (.tuple #[]) ∧ ∃ d', PermIn 0 d.size d d' ∧ SortedIn lt 0 d.size d' ∧ Holds (Value.int .i64) w' blk 0 d' ∧ ExtM (fun k => k = blk) w w' := by
  obtain ⟨i, hi, hd⟩ : ∃ i, Tryz.prog.info? 77 = some i ∧ i.desc = .slice 3 := by
    have h := sInfoInts
    cases h2 : Tryz.prog.info? 77 with
    | none => rw [h2] at h; simp at h
    | some i => rw [h2] at h; exact ⟨i, rfl, by simpa using h⟩
  obtain ⟨ie, hie, hs1, hs8, hsp⟩ : ∃ i, Tryz.prog.info? 3 = some i ∧ i.size = 1 ∧ i.bytes = 8 ∧ i.hasPointers = false := by
    have h := sInfoInt
    cases h2 : Tryz.prog.info? 3 with
    | none => rw [h2] at h; simp at h
    | some i => rw [h2] at h; simp at h; exact ⟨i, rfl, h⟩
  by_cases h2 : d.size ≤ 1
  · have ht := Any.sort_Slice_tiny Tryz.shSlice 77 3 i ie hi hd sPackedInts hie 2 sKindInt (some ⟨blk, 0, none⟩) d.size cap h2 (if d.size = 0 then 70 else 71)
      (by
        by_cases h0 : d.size = 0
        · rw [h0]; exact swapper1
        · rw [show d.size = 1 by omega]; exact swapper2) (.func g) #[] lb w
    refine ht.mono ?_
    rintro e w' ⟨he, os, rfl⟩
    have hx := grow_ext w os
    refine ⟨he, d, permIn_refl _ _ _, fun x y h1 h2' h3 => by omega, fun k hk => ?_, hx.mono (fun _ _ h => h.elim)⟩
    exact ⟨(hx.cell (p := ⟨blk, 0 + k, none⟩) hblk (fun h => h)).trans (hH k hk).1, (hx.frozen (p := ⟨blk, 0 + k, none⟩) hblk (fun h => h)).trans (hH k hk).2⟩
  · have hK : Lib.swapperK d.size ie 2 = 5 := by
      unfold Lib.swapperK
      simp [hs8, hsp, show d.size ≠ 0 by omega, show d.size ≠ 1 by omega]
    refine Any.sort_Slice_of_pdq Tryz.shSlice 77 3 i ie hi hd sPackedInts hie 2 sKindInt (some ⟨blk, 0, none⟩) d.size cap (by omega) 74 (by rw [hK]; exact swapper5) (.func g) #[] lb w _ ?_
    have hB : sliceBound Tryz.prog 3 ie 2 (some ⟨blk, 0, none⟩) d.size cap = #[.slice (some ⟨blk, 0, none⟩) d.size cap, Go.typeHandle Tryz.prog 3] := by
      unfold sliceBound; rw [if_neg (swapperK_gt _ _ _ (by omega))]
    rw [hB]
    have hsw : SwapSwaps Tryz.prog 74 #[.slice (some ⟨blk, 0, none⟩) d.size cap, Go.typeHandle Tryz.prog 3] (Value.int .i64) blk 0 d.size :=
      swapSwaps_of_literal true 74 swapLit5 3 ie hie hs1 sIsAggInt (Value.int .i64) (fun _ => rfl) blk 0 d.size cap
    have I : SIf d.size lt g lb 74 #[.slice (some ⟨blk, 0, none⟩) d.size cap, Go.typeHandle Tryz.prog 3] blk (fun D W => D.size = d.size ∧ HInts P blk d.size w D W) := by
      refine ⟨⟨w.heap.size, fun D W h => h.2.2.2.size, hblk, fun D W W' h hx => ⟨h.1, fun k hk => ?_, h.2.2.1, ?_⟩⟩, eg, fun D W i j hs h hi hj => hless D W i j hs h.2 hi hj, fun D W i j hs h hi hj => ?_⟩
      · have hb : blk < W.heap.size := Nat.lt_of_lt_of_le hblk h.2.2.2.size
        exact ⟨(hx.cell (p := ⟨blk, 0 + k, none⟩) hb (by simp; exact hblk)).trans (h.2.1 k hk).1, (hx.frozen (p := ⟨blk, 0 + k, none⟩) hb (by simp; exact hblk)).trans (h.2.1 k hk).2⟩
      · have h4 := h.2.2.2
        exact ⟨hx.os.trans h4.os, hx.tape.trans h4.tape, hx.output.trans h4.output, Nat.le_trans h4.size hx.size, fun k hk hn => (hx.block k (Nat.lt_of_lt_of_le hk h4.size) (by omega)).trans (h4.block k hk hn)⟩
      · refine ⟨_, hsw W D h.2.1 hs i j hi hj, ⟨by rw [size_swp]; exact hs, fun k hk => ?_, fun k hk => ?_, ?_⟩, ExtM.trans _ _ _ (ext_setCellM (M := fun k => k = blk) rfl _) (ext_setCellM (M := fun k => k = blk) rfl _)⟩
        · have e := putRow_swp (Value.int .i64) W blk 0 D i j (by omega) (by omega)
          rw [putRow_self _ _ _ _ _ h.2.1] at e
          rw [e]
          exact holds_putRow (Value.int .i64) W blk 0 D (swp D i j) h.2.1 (size_swp _ _ _) k hk
        · rw [swp_at D (by omega) (by omega)]
          split
          · exact h.2.2.1 _ hi
          · split
            · exact h.2.2.1 _ hj
            · exact h.2.2.1 _ hk
        · exact ExtM.trans _ _ _ h.2.2.2 (ExtM.trans _ _ _ (ext_setCellM (M := fun k => k = blk) rfl _) (ext_setCellM (M := fun k => k = blk) rfl _))
    have hx0 : Ext w (sliceWorld Tryz.prog Tryz.shSlice_ren 77 (some ⟨blk, 0, none⟩) d.size cap w) := ((ExtM.refl w).alloc _).alloc _
    have hH0 : d.size = d.size ∧ HInts P blk d.size w d (sliceWorld Tryz.prog Tryz.shSlice_ren 77 (some ⟨blk, 0, none⟩) d.size cap w) :=
      ⟨rfl, fun k hk => ⟨(hx0.cell (p := ⟨blk, 0 + k, none⟩) hblk (fun h => h)).trans (hH k hk).1, (hx0.frozen (p := ⟨blk, 0 + k, none⟩) hblk (fun h => h)).trans (hH k hk).2⟩, hP, hx0.mono (fun _ _ h => h.elim)⟩
    have hlim : Lib.bitLen d.size < 4611686018427387904 := Nat.lt_of_le_of_lt (Lib.bitLen_le d.size 62 (by omega) (by omega)) (by omega)
    refine (pdq_c I hO hn (d.size + 1) 0 d.size (Lib.bitLen d.size) d _ (by omega) hH0 rfl (Nat.zero_le _) (Nat.le_refl _) hlim (Or.inl rfl)).mono ?_
    rintro e w' ⟨he, hH', -⟩
    obtain ⟨p1, p2⟩ := pdq_sorts lt hO d 0 d.size (Lib.bitLen d.size) true true (Nat.zero_le _) (Nat.le_refl _) (Or.inl rfl)
    exact ⟨he, _, p1, p2, hH'.2.1, hH'.2.2.2⟩

/-- The nil slice. -/
theorem sliceI0_c (lf : Fn) (la lb : Array Value) (w : World) :
    Calls Tryz.prog 47 #[.iface 77 (.slice none 0 0), .func lf la lb] w fun e w' => e = .returned (.tuple #[]) ∧ Ext w w' := by
  obtain ⟨i, hi, hd⟩ : ∃ i, Tryz.prog.info? 77 = some i ∧ i.desc = .slice 3 := by
    have h := sInfoInts
    cases h2 : Tryz.prog.info? 77 with
    | none => rw [h2] at h; simp at h
    | some i => rw [h2] at h; exact ⟨i, rfl, by simpa using h⟩
  obtain ⟨ie, hie⟩ : ∃ i, Tryz.prog.info? 3 = some i := by
    have h := sInfoInt
    cases h2 : Tryz.prog.info? 3 with
    | none => rw [h2] at h; simp at h
    | some i => exact ⟨i, rfl⟩
  refine (Any.sort_Slice_tiny Tryz.shSlice 77 3 i ie hi hd sPackedInts hie 2 sKindInt none 0 0 (by omega) 70 swapper1 lf la lb w).mono ?_
  rintro e w' ⟨he, os, rfl⟩
  exact ⟨he, grow_ext w os⟩
end Go.Proofs.YtggjceolhbdalaaGreatDoor
