/- sort's heapSort_func and reverseRange_func over an abstract less and swap. -/
import Derived.Test.YtggjceolhbdalaaGreatDoorSIf2
import Derived.Sort.WalkB3
namespace Go.Proofs.YtggjceolhbdalaaGreatDoor
open Go.RowKit Go.Plan Go.Sort
variable {α : Type} [Inhabited α]


theorem ext_none {blk : Nat} {w w' : World} (h : Ext w w') : ExtM (fun k => k = blk) w w' := h.mono (fun _ _ h => h.elim)

set_option maxRecDepth 100000 in
set_option maxHeartbeats 4000000 in
theorem heapSort_c {n : Nat} {lt : α → α → Bool} {g : Nat} {lb : Array Value} {sf : Nat} {sb : Array Value} {blk : Nat} {H : Array α → World → Prop} (I : SIf n lt g lb sf sb blk H) (a b : Nat) (d : Array α) (w : World) (hH : H d w) (hs : d.size = n) (hab : a ≤ b) (hb : b ≤ n) (hn : n < 1000000) :
    Calls Tryz.prog 82 #[.agg #[.func (.func g) #[] lb, .func (.func sf) #[] sb], .int .i64 a, .int .i64 b] w fun e w' => e = .returned (.tuple #[]) ∧ H (heapSort lt d a b) w' ∧ ExtM (fun k => k = blk) w w' := by
  have ecast : ((b - a : Nat) : Int) = (b : Int) - (a : Int) := by omega
  have HEC := Lib.hid ecast
  clear ecast
  have hbl := I.lt' d w hH
  have hx1 : Ext w (w.alloc (.cells #[.func (.func g) #[] lb, .func (.func sf) #[] sb] 126)) := (ExtM.refl w).alloc _
  have hH1 := I.ext d w _ hH hx1
  have eg := I.eg
  go_enter Tryz.func82, Tryz.ntmps82
  go_wp2
  have q0 : (w.alloc (.cells #[.func (.func g) #[] lb, .func (.func sf) #[] sb] 126)).cell? ⟨w.heap.size, 0, none⟩ = some (.func (.func g) #[] lb) := by go_simp
  have q1 : (w.alloc (.cells #[.func (.func g) #[] lb, .func (.func sf) #[] sb] 126)).cell? ⟨w.heap.size, 1, none⟩ = some (.func (.func sf) #[] sb) := by go_simp
  have hN : w.heap.size < (w.alloc (.cells #[.func (.func g) #[] lb, .func (.func sf) #[] sb] 126)).heap.size := by simp
  generalize w.alloc (.cells #[.func (.func g) #[] lb, .func (.func sf) #[] sb] 126) = W1 at *
  have hcc : ∀ u, ExtM (fun k => k = blk) W1 u → u.cell? ⟨w.heap.size, 0, none⟩ = some (.func (.func g) #[] lb) ∧ u.cell? ⟨w.heap.size, 1, none⟩ = some (.func (.func sf) #[] sb) := fun u hu =>
    ⟨(hu.cell (p := ⟨w.heap.size, 0, none⟩) hN (by simp; omega)).trans q0, (hu.cell (p := ⟨w.heap.size, 1, none⟩) hN (by simp; omega)).trans q1⟩
  have HCC := Lib.hid hcc
  clear hcc q0 q1
  go_loopg [9] ((b - a - 1) / 2 + 1) (fun k s9 wr => s9 = .int .i64 ((k : Int) - 1) ∧ k ≤ (b - a - 1) / 2 + 1 ∧ ∃ (dk : Array α), dk.size = n ∧ H dk wr ∧ ExtM (fun k => k = blk) W1 wr ∧ Hid (heapBuild lt (b - a) a k dk = heapBuild lt (b - a) a ((b - a - 1) / 2 + 1) d))
  case atStart => exact ⟨by rw [half_start hab], Nat.le_refl _, d, hs, hH1, ExtM.refl _, rfl⟩
  case round =>
    obtain ⟨rfl, hkk, dk, hds, hHk, hxk, HE⟩ := hrel
    obtain ⟨c0, c1⟩ := HCC.out _ hxk
    cases gk with
    | zero =>
      have HB : Hid (dk = heapBuild lt (b - a) a ((b - a - 1) / 2 + 1) d) := HE.out
      clear HE hkk
      go_wp2
      go_loopg [10] (b - a) (fun k s10 wr2 => s10 = .int .i64 ((k : Int) - 1) ∧ k ≤ b - a ∧ ∃ (dj : Array α), dj.size = n ∧ H dj wr2 ∧ ExtM (fun k => k = blk) W1 wr2 ∧ Hid (heapPop lt a k dj = heapPop lt a (b - a) dk))
      case atStart => exact ⟨by rw [HEC.out], Nat.le_refl _, dk, hds, hHk, hxk, rfl⟩
      case round =>
        clear hHk hxk c0 c1
        obtain ⟨rfl, hkk, dj, hdj, hHj, hxj, HE2⟩ := hrel
        obtain ⟨c0, c1⟩ := HCC.out _ hxj
        cases gk with
        | zero =>
          go_wp2
          go_end0
          have e : dj = heapSort lt d a b := by rw [heapSort, ← HB.out, ← HE2.out]; rfl
          rw [← e]
          exact ⟨rfl, hHj, ExtM.trans _ _ _ (ext_none hx1) hxj⟩
        | succ k =>
          obtain ⟨w2, hsw, hH2, hx2⟩ := I.swap dj wr a (a + k) hdj hHj (by omega) (by omega)
          rw [show ((a + k : Nat) : Int) = (a : Int) + (k : Int) by omega] at hsw
          have hx2' := ExtM.trans _ _ _ hxj hx2
          obtain ⟨d0, d1⟩ := HCC.out _ hx2'
          have hd2 : (swp dj a (a + k)).size = n := by rw [size_swp]; exact hdj
          have hcall := siftDown_c I 0 k a (swp dj a (a + k)) w2 hH2 hd2 (by omega) (by omega) hn
          go_wp2_with (go_at_call 95; refine hcall.mono ?_; rintro e w3 ⟨rfl, hH3, hx3⟩)
          go_roundg k
          case measure => omega
          case rel =>
            have hss : (siftDown lt k a 0 (swp dj a (a + k))).size = (swp dj a (a + k)).size := size_siftDown lt _ _ _ _ _ (Nat.le_refl _)
            exact ⟨by simp, by omega, siftDown lt k a 0 (swp dj a (a + k)), by rw [hss, hd2], hH3, ExtM.trans _ _ _ hx2' hx3, HE2⟩
    | succ k =>
      have hcall := siftDown_c I k (b - a) a dk wr hHk hds (by omega) (by omega) hn
      rw [HEC.out] at hcall
      go_wp2_with (go_at_call 95; refine hcall.mono ?_; rintro e w3 ⟨rfl, hH3, hx3⟩)
      go_roundg k
      case measure => omega
      case rel =>
        have hss : (siftDown lt (b - a) a k dk).size = dk.size := size_siftDown lt _ _ _ _ _ (Nat.le_refl _)
        exact ⟨by simp, by omega, siftDown lt (b - a) a k dk, by rw [hss, hds], hH3, ExtM.trans _ _ _ hxk hx3, HE⟩

set_option maxRecDepth 100000 in
set_option maxHeartbeats 4000000 in
theorem reverseRange_c {n : Nat} {lt : α → α → Bool} {g : Nat} {lb : Array Value} {sf : Nat} {sb : Array Value} {blk : Nat} {H : Array α → World → Prop} (I : SIf n lt g lb sf sb blk H) (a b : Nat) (d : Array α) (w : World) (hH : H d w) (hs : d.size = n) (hab : a ≤ b) (hb : b ≤ n) (hn : n < 1000000) :
    Calls Tryz.prog 85 #[.agg #[.func (.func g) #[] lb, .func (.func sf) #[] sb], .int .i64 a, .int .i64 b] w fun e w' => e = .returned (.tuple #[]) ∧ H (reverseRange d a b) w' ∧ ExtM (fun k => k = blk) w w' := by
  have hbl := I.lt' d w hH
  have hx1 : Ext w (w.alloc (.cells #[.func (.func g) #[] lb, .func (.func sf) #[] sb] 126)) := (ExtM.refl w).alloc _
  have hH1 := I.ext d w _ hH hx1
  have eg := I.eg
  go_enter Tryz.func85, Tryz.ntmps85
  go_wp2
  have q0 : (w.alloc (.cells #[.func (.func g) #[] lb, .func (.func sf) #[] sb] 126)).cell? ⟨w.heap.size, 0, none⟩ = some (.func (.func g) #[] lb) := by go_simp
  have q1 : (w.alloc (.cells #[.func (.func g) #[] lb, .func (.func sf) #[] sb] 126)).cell? ⟨w.heap.size, 1, none⟩ = some (.func (.func sf) #[] sb) := by go_simp
  have hN : w.heap.size < (w.alloc (.cells #[.func (.func g) #[] lb, .func (.func sf) #[] sb] 126)).heap.size := by simp
  generalize w.alloc (.cells #[.func (.func g) #[] lb, .func (.func sf) #[] sb] 126) = W1 at *
  have hcc : ∀ u, ExtM (fun k => k = blk) W1 u → u.cell? ⟨w.heap.size, 0, none⟩ = some (.func (.func g) #[] lb) ∧ u.cell? ⟨w.heap.size, 1, none⟩ = some (.func (.func sf) #[] sb) := fun u hu =>
    ⟨(hu.cell (p := ⟨w.heap.size, 0, none⟩) hN (by simp; omega)).trans q0, (hu.cell (p := ⟨w.heap.size, 1, none⟩) hN (by simp; omega)).trans q1⟩
  have HCC := Lib.hid hcc
  clear hcc q0 q1
  go_loopg [6, 7] (b - a) (fun k s6 s7 wr => ∃ (i jn : Nat) (jz : Int) (dk : Array α), s6 = .int .i64 i ∧ s7 = .int .i64 jz ∧ ((i : Int) < jz → jz = jn ∧ jn < n) ∧ (¬ (i : Int) < jz → ¬ i < jn) ∧ jn - i ≤ k ∧
    dk.size = n ∧ H dk wr ∧ ExtM (fun k => k = blk) W1 wr ∧ Hid (reverseLoop i jn dk = reverseLoop a (b - 1) d))
  case atStart => exact ⟨a, b - 1, (b : Int) - 1, d, rfl, rfl, fun h => ⟨by omega, by omega⟩, fun h => by omega, by omega, hs, hH1, ExtM.refl _, rfl⟩
  case round =>
    obtain ⟨i, jn, jz, dk, rfl, rfl, h1, h2, hk, hds, hHk, hxk, HE⟩ := hrel
    obtain ⟨c0, c1⟩ := HCC.out _ hxk
    by_cases hlt : (i : Int) < jz
    · obtain ⟨rfl, hjn⟩ := h1 hlt
      have hij : i < jn := by omega
      clear h1 h2
      obtain ⟨w2, hsw, hH2, hx2⟩ := I.swap dk wr i jn hds hHk (by omega) (by omega)
      go_wp2
      go_roundg (jn - 1 - (i + 1))
      case measure => omega
      case rel =>
        exact ⟨i + 1, jn - 1, (jn : Int) - 1, swp dk i jn, by simp, rfl, fun h => ⟨by omega, by omega⟩, fun h => by omega, Nat.le_refl _, by rw [size_swp]; exact hds, hH2, ExtM.trans _ _ _ hxk hx2,
          (show Hid _ from by have := HE.out; rw [reverseLoop, if_pos hij] at this; exact this)⟩
    · have hnot := h2 hlt
      clear h1 h2
      go_wp2
      go_end0
      refine ⟨rfl, ?_, ExtM.trans _ _ _ (ext_none hx1) hxk⟩
      have := HE.out
      rw [reverseLoop, if_neg hnot] at this
      rw [reverseRange, ← this]
      exact hHk
end Go.Proofs.YtggjceolhbdalaaGreatDoor
