/- sort's order2_func, median_func, medianAdjacent_func and choosePivot_func over an abstract less. -/
import Derived.Test.YtggjceolhbdalaaGreatDoorSIf3
import Derived.Sort.Walk11
import Derived.Shelf.GgSortFunc.LotD
namespace Go.Proofs.YtggjceolhbdalaaGreatDoor
open Go.RowKit Go.Plan Go.Sort
variable {α : Type} [Inhabited α]

/-- A counter in the block c: what it holds; and that the row does not lie there. -/
def CtrC {α : Type} (H : Array α → World → Prop) (blk c : Nat) (s : Nat) (W : World) : Prop := W.cell? ⟨c, 0, none⟩ = some (.int .i64 s) ∧ W.frozen? ⟨c, 0, none⟩ = false ∧ c < W.heap.size ∧ c ≠ blk ∧ ∀ d u u', H d u → ExtM (fun k => k = c) u u' → H d u'
theorem CtrC.ext {β : Type} {H : Array β → World → Prop} {blk c s : Nat} {W W' : World} (h : CtrC H blk c s W) (hx : Ext W W') : CtrC H blk c s W' :=
  ⟨(hx.cell (p := ⟨c, 0, none⟩) h.2.2.1 (fun h => h)).trans h.1, (hx.frozen (p := ⟨c, 0, none⟩) h.2.2.1 (fun h => h)).trans h.2.1, Nat.lt_of_lt_of_le h.2.2.1 hx.size, h.2.2.2⟩

set_option maxRecDepth 100000 in
set_option maxHeartbeats 4000000 in
theorem order2_c {n : Nat} {lt : α → α → Bool} {g : Nat} {lb : Array Value} {sf : Nat} {sb : Array Value} {blk : Nat} {H : Array α → World → Prop} (I : SIf n lt g lb sf sb blk H) (a b c s : Nat) (d : Array α) (w : World) (hH : H d w) (hs : d.size = n) (ha : a < n) (hb : b < n) (hc : CtrC H blk c s w) (hs9 : s < 1000) :
    Calls Tryz.prog 102 #[.agg #[.func (.func g) #[] lb, .func (.func sf) #[] sb], .int .i64 a, .int .i64 b, .pointer (some ⟨c, 0, none⟩)] w fun e w' => e = .returned (.tuple #[.int .i64 (order2 lt d a b s).1, .int .i64 (order2 lt d a b s).2.1]) ∧ H d w' ∧ CtrC H blk c (order2 lt d a b s).2.2 w' ∧ ExtM (fun k => k = c) w w' := by
  have hx1 : Ext w (w.alloc (.cells #[.func (.func g) #[] lb, .func (.func sf) #[] sb] 126)) := (ExtM.refl w).alloc _
  have hH1 := I.ext d w _ hH hx1
  have eg := I.eg
  have hl := I.less d _ b a hs hH1 hb ha
  have hN : w.heap.size < (w.alloc (.cells #[.func (.func g) #[] lb, .func (.func sf) #[] sb] 126)).heap.size := by simp
  have hcx := hc.ext hx1
  cases hlv : lt d[b]! d[a]! with
  | true =>
    have e2 : order2 lt d a b s = (b, a, s + 1) := by simp [order2, hlv]
    rw [hlv] at hl
    rw [e2]
    clear hlv e2
    go_enter Tryz.func102, Tryz.ntmps102
    go_wp2_with (
      go_at_fn g
      refine hl.mono ?_
      rintro e w2 ⟨rfl, hy⟩
      have hc2 := hcx.ext hy
      obtain ⟨c0, f0, -⟩ := hc2)
    go_ret2
    have hx3 : ExtM (fun k => k = c) w2 (w2.setCell ⟨c, 0, none⟩ (.int .i64 ((s : Int) + 1))) := ExtM.setCell (M := fun k => k = c) (ExtM.refl w2) (p := ⟨c, 0, none⟩) (.inr rfl) _
    have hcW := hcx.ext hy
    refine ⟨rfl, hcW.2.2.2.2 d _ _ (I.ext _ _ _ hH1 hy) hx3, ⟨?_, ?_, ?_, hcW.2.2.2⟩, ExtM.trans _ _ _ (ext_none hx1) (ExtM.trans _ _ _ (ext_none hy) hx3)⟩
    · rw [World.cell?_setCell_same _ _ _ c0]; simp
    · simpa using f0
    · simpa using hcW.2.2.1
  | false =>
    have e2 : order2 lt d a b s = (a, b, s) := by simp [order2, hlv]
    rw [hlv] at hl
    rw [e2]
    clear hlv e2
    go_enter Tryz.func102, Tryz.ntmps102
    go_wp2_with (
      go_at_fn g
      refine hl.mono ?_
      rintro e w2 ⟨rfl, hy⟩)
    go_ret2
    exact ⟨rfl, I.ext _ _ _ hH1 hy, hcx.ext hy, ExtM.trans _ _ _ (ext_none hx1) (ext_none hy)⟩

set_option maxRecDepth 100000 in
set_option maxHeartbeats 4000000 in
theorem median_c {n : Nat} {lt : α → α → Bool} {g : Nat} {lb : Array Value} {sf : Nat} {sb : Array Value} {blk : Nat} {H : Array α → World → Prop} (I : SIf n lt g lb sf sb blk H) (a b x c s : Nat) (d : Array α) (w : World) (hH : H d w) (hs : d.size = n) (ha : a < n) (hb : b < n) (hx : x < n) (hc : CtrC H blk c s w) (hs9 : s < 900) :
    Calls Tryz.prog 99 #[.agg #[.func (.func g) #[] lb, .func (.func sf) #[] sb], .int .i64 a, .int .i64 b, .int .i64 x, .pointer (some ⟨c, 0, none⟩)] w fun e w' => e = .returned (.int .i64 (median lt d a b x s).1) ∧ H d w' ∧ CtrC H blk c (median lt d a b x s).2 w' ∧ ExtM (fun k => k = c) w w' := by
  have hx1 : Ext w (w.alloc (.cells #[.func (.func g) #[] lb, .func (.func sf) #[] sb] 126)) := (ExtM.refl w).alloc _
  have hH1 := I.ext d w _ hH hx1
  have hcx := hc.ext hx1
  have l1 := order2_lt' lt d s ha hb
  have s1 := order2_swaps' lt d a b s
  have l2 := order2_lt' lt d (order2 lt d a b s).2.2 l1.2 hx
  have s2 := order2_swaps' lt d (order2 lt d a b s).2.1 x (order2 lt d a b s).2.2
  have hcl := hc.2.2.1
  have hN : w.heap.size < (w.alloc (.cells #[.func (.func g) #[] lb, .func (.func sf) #[] sb] 126)).heap.size := by simp
  have hcc : ∀ u, ExtM (fun k => k = c) (w.alloc (.cells #[.func (.func g) #[] lb, .func (.func sf) #[] sb] 126)) u → u.cell? ⟨w.heap.size, 0, none⟩ = some (.func (.func g) #[] lb) ∧ u.cell? ⟨w.heap.size, 1, none⟩ = some (.func (.func sf) #[] sb) := fun u hu =>
    ⟨(hu.cell (p := ⟨w.heap.size, 0, none⟩) hN (by simp; omega)).trans (by go_simp), (hu.cell (p := ⟨w.heap.size, 1, none⟩) hN (by simp; omega)).trans (by go_simp)⟩
  have HCC := Lib.hid hcc
  clear hcc
  have k1 := order2_c I a b c s d _ hH1 hs ha hb hcx (by omega)
  have k2 := fun u h1 h2 => order2_c I (order2 lt d a b s).2.1 x c (order2 lt d a b s).2.2 d u h1 hs l1.2 hx h2 (by omega)
  have k3 := fun u h1 h2 => order2_c I (order2 lt d a b s).1 (order2 lt d (order2 lt d a b s).2.1 x (order2 lt d a b s).2.2).1 c (order2 lt d (order2 lt d a b s).2.1 x (order2 lt d a b s).2.2).2.2 d u h1 hs l1.1 l2.1 h2 (by omega)
  have hm : median lt d a b x s = ((order2 lt d (order2 lt d a b s).1 (order2 lt d (order2 lt d a b s).2.1 x (order2 lt d a b s).2.2).1 (order2 lt d (order2 lt d a b s).2.1 x (order2 lt d a b s).2.2).2.2).2.1, (order2 lt d (order2 lt d a b s).1 (order2 lt d (order2 lt d a b s).2.1 x (order2 lt d a b s).2.2).1 (order2 lt d (order2 lt d a b s).2.1 x (order2 lt d a b s).2.2).2.2).2.2) := rfl
  rw [hm]
  clear hm
  generalize order2 lt d a b s = r1 at *
  obtain ⟨p1, q1, t1⟩ := r1
  simp only at k2 k3 l1 l2 s1 s2 k1 ⊢
  generalize order2 lt d q1 x t1 = r2 at *
  obtain ⟨p2, q2, t2⟩ := r2
  simp only at k2 k3 l1 l2 s1 s2 k1 ⊢
  generalize order2 lt d p1 p2 t2 = r3 at *
  obtain ⟨p3, q3, t3⟩ := r3
  simp only at k3 ⊢
  go_enter Tryz.func99, Tryz.ntmps99
  go_wp2_with (
    go_at_call 102
    refine k1.mono ?_
    rintro e w2 ⟨rfl, hH2, hc2, hy2⟩
    clear k1
    obtain ⟨c0, c1⟩ := HCC.out _ hy2)
  go_wp2_with (
    go_at_call 102
    refine (k2 _ hH2 hc2).mono ?_
    rintro e w3 ⟨rfl, hH3, hc3, hy3⟩
    clear k2
    have hy3' := ExtM.trans _ _ _ hy2 hy3
    obtain ⟨c0, c1⟩ := HCC.out _ hy3')
  go_wp2_with (
    go_at_call 102
    refine (k3 _ hH3 hc3).mono ?_
    rintro e w4 ⟨rfl, hH4, hc4, hy4⟩
    clear k3
    have hy4' := ExtM.trans _ _ _ hy3' hy4)
  go_ret
  exact ⟨rfl, hH4, hc4, ExtM.trans _ _ _ (ext_none hx1) hy4'⟩

set_option maxRecDepth 100000 in
set_option maxHeartbeats 4000000 in
theorem medianAdj_c {n : Nat} {lt : α → α → Bool} {g : Nat} {lb : Array Value} {sf : Nat} {sb : Array Value} {blk : Nat} {H : Array α → World → Prop} (I : SIf n lt g lb sf sb blk H) (a c s : Nat) (d : Array α) (w : World) (hH : H d w) (hs : d.size = n) (ha : 1 ≤ a) (ha2 : a + 1 < n) (hc : CtrC H blk c s w) (hs9 : s < 900) (hn : n < 1000000) :
    Calls Tryz.prog 98 #[.agg #[.func (.func g) #[] lb, .func (.func sf) #[] sb], .int .i64 a, .pointer (some ⟨c, 0, none⟩)] w fun e w' => e = .returned (.int .i64 (medianAdjacent lt d a s).1) ∧ H d w' ∧ CtrC H blk c (medianAdjacent lt d a s).2 w' ∧ ExtM (fun k => k = c) w w' := by
  have hx1 : Ext w (w.alloc (.cells #[.func (.func g) #[] lb, .func (.func sf) #[] sb] 126)) := (ExtM.refl w).alloc _
  have hm := median_c I (a - 1) a (a + 1) c s d _ (I.ext d w _ hH hx1) hs (by omega) (by omega) ha2 (hc.ext hx1) hs9
  rw [show ((a - 1 : Nat) : Int) = (a : Int) - 1 by omega, show ((a + 1 : Nat) : Int) = (a : Int) + 1 by omega] at hm
  rw [show medianAdjacent lt d a s = median lt d (a - 1) a (a + 1) s from rfl]
  generalize median lt d (a - 1) a (a + 1) s = r at *
  go_enter Tryz.func98, Tryz.ntmps98
  go_wp2_with (
    go_at_call 99
    refine hm.mono ?_
    rintro e w2 ⟨rfl, hH2, hc2, hy2⟩)
  go_ret
  exact ⟨rfl, hH2, hc2, ExtM.trans _ _ _ (ext_none hx1) hy2⟩
end Go.Proofs.YtggjceolhbdalaaGreatDoor
