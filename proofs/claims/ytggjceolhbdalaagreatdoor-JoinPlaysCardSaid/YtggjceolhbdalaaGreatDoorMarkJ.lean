/- What the functions of the package mark compute (beside the package side). -/
import Derived.Test.YtggjceolhbdalaaGreatDoorErrs2
import Derived.Test.YtggjceolhbdalaaGreatDoorSide
namespace Go.Proofs.YtggjceolhbdalaaGreatDoor
open Go.RowKit Go.Plan

/-- How far the two sides are, as the block 'B' holds it. -/
structure Mk (w : World) (B : Nat) (x y : Int) : Prop where
  c0 : w.cell? ⟨B, 0, none⟩ = some (.int .i64 x)
  c1 : w.cell? ⟨B, 1, none⟩ = some (.int .i64 y)
  f0 : w.frozen? ⟨B, 0, none⟩ = false
  f1 : w.frozen? ⟨B, 1, none⟩ = false

theorem Mk.lt {w : World} {B : Nat} {x y : Int} (h : Mk w B x y) : B < w.heap.size := cell_lt h.c0

/-- How far side 's' is. -/
def ofI (s x y : Int) : Int := if s = 0 then x else if s = 1 then y else -1099511627777

theorem new_c (w : World) : Calls Tryz.prog 23 #[] w fun e w' => e = .returned (.pointer (some ⟨w.heap.size, 0, none⟩)) ∧ Ext w w' ∧ Mk w' w.heap.size (-1099511627777) (-1099511627777) := by
  go_enter Tryz.func23, Tryz.ntmps23
  go_wp2_with fail
  go_ret
  exact ⟨rfl, (ExtM.refl _).alloc _, by go_simp, by go_simp, by rw [Go.RowKit.frozen?_alloc_cells]; simp [World.frozen?], by rw [Go.RowKit.frozen?_alloc_cells]; simp [World.frozen?]⟩

theorem of_c (B : Nat) (s x y : Int) (w : World) (h : Mk w B x y) : Calls Tryz.prog 36 #[.pointer (some ⟨B, 0, none⟩), .int .i64 s] w fun e w' => e = .returned (.int .i64 (ofI s x y)) ∧ w' = w := by
  obtain ⟨c0, c1, f0, f1⟩ := h
  by_cases h0 : s = 0
  · subst h0
    go_enter Tryz.func36, Tryz.ntmps36
    go_wp2_with fail
    go_ret
    exact ⟨rfl, rfl⟩
  by_cases h1 : s = 1
  · subst h1
    go_enter Tryz.func36, Tryz.ntmps36
    go_wp2_with fail
    go_ret
    exact ⟨rfl, rfl⟩
  · have e : ofI s x y = -1099511627777 := by simp [ofI, h0, h1]
    rw [e]
    have b0 : (s != 0) = true := by simp [h0]
    have b1 : (s != 1) = true := by simp [h1]
    go_enter Tryz.func36, Tryz.ntmps36
    go_wp2_with fail
    go_ret
    exact ⟨rfl, rfl⟩

theorem late_c (B : Nat) (s t x y : Int) (w : World) (h : Mk w B x y) : Calls Tryz.prog 34 #[.pointer (some ⟨B, 0, none⟩), .int .i64 s, .int .i64 t] w fun e w' => e = .returned (.bool (decide (t ≤ ofI s x y))) ∧ w' = w := by
  go_enter Tryz.func34, Tryz.ntmps34
  go_wp2_with fail
  refine (of_c B s x y _ h).mono ?_
  rintro e w' ⟨rfl, rfl⟩
  go_wp2_with fail
  go_ret
  exact ⟨rfl, rfl⟩

/-- What 'Move' answers. -/
def moveI (s t x y : Int) : Int :=
  if s ≠ 0 ∧ s ≠ 1 then 1 else if t < -1099511627776 ∨ 1099511627776 < t then 2 else if t < ofI s x y then 10 else 0

/-- The world behind 'Move'. -/
def moveW (w : World) (B : Nat) (s t x y : Int) : World := if moveI s t x y = 0 then w.setCell ⟨B, if s = 0 then 0 else 1, none⟩ (.int .i64 t) else w

theorem move_c (B : Nat) (s t x y : Int) (w : World) (h : Mk w B x y) : Calls Tryz.prog 43 #[.pointer (some ⟨B, 0, none⟩), .int .i64 s, .int .i64 t] w fun e w' =>
    e = .returned (errV (moveI s t x y)) ∧ w' = moveW w B s t x y := by
  obtain ⟨c0, c1, f0, f1⟩ := h
  by_cases hs : s ≠ 0 ∧ s ≠ 1
  · have em : moveI s t x y = 1 := by simp [moveI, hs]
    have b0 : (s != 0) = true := by simp [hs.1]
    have b1 : (s != 1) = true := by simp [hs.2]
    rw [moveW, em, if_neg (by decide)]
    go_enter Tryz.func43, Tryz.ntmps43
    go_wp2_with fail
    go_ret
    exact ⟨rfl, rfl⟩
  by_cases ht : t < -1099511627776 ∨ 1099511627776 < t
  · have em : moveI s t x y = 2 := by simp only [moveI, if_neg hs, if_pos ht]
    rw [moveW, em, if_neg (by decide)]
    have hs' : s = 0 ∨ s = 1 := by omega
    by_cases hl : t < -1099511627776
    · have d : decide (t < -1099511627776) = true := by simp [hl]
      rcases hs' with rfl | rfl
      · go_enter Tryz.func43, Tryz.ntmps43
        go_wp2_with fail
        go_ret
        exact ⟨rfl, rfl⟩
      · go_enter Tryz.func43, Tryz.ntmps43
        go_wp2_with fail
        go_ret
        exact ⟨rfl, rfl⟩
    · have hu : 1099511627776 < t := by omega
      have d : decide (t < -1099511627776) = false := by simp [hl]
      have d' : decide (1099511627776 < t) = true := by simp [hu]
      rcases hs' with rfl | rfl
      · go_enter Tryz.func43, Tryz.ntmps43
        go_wp2_with fail
        go_ret
        exact ⟨rfl, rfl⟩
      · go_enter Tryz.func43, Tryz.ntmps43
        go_wp2_with fail
        go_ret
        exact ⟨rfl, rfl⟩
  have hs' : s = 0 ∨ s = 1 := by omega
  have hl : ¬ t < -1099511627776 := by omega
  have hu : ¬ 1099511627776 < t := by omega
  have d : decide (t < -1099511627776) = false := by simp [hl]
  have d' : decide (1099511627776 < t) = false := by simp [hu]
  by_cases ho : t < ofI s x y
  · have em : moveI s t x y = 10 := by simp only [moveI, if_neg hs, if_neg ht, if_pos ho]
    rw [moveW, em, if_neg (by decide)]
    rcases hs' with rfl | rfl
    · have o : decide (t < x) = true := by simpa [ofI] using ho
      clear ho ht
      go_enter Tryz.func43, Tryz.ntmps43
      go_wp2_with fail
      go_ret
      exact ⟨rfl, rfl⟩
    · have o : decide (t < y) = true := by simpa [ofI] using ho
      clear ho ht
      go_enter Tryz.func43, Tryz.ntmps43
      go_wp2_with fail
      go_ret
      exact ⟨rfl, rfl⟩
  · have em : moveI s t x y = 0 := by simp only [moveI, if_neg hs, if_neg ht, if_neg ho]
    rw [moveW, em, if_pos rfl]
    rcases hs' with rfl | rfl
    · have o : decide (t < x) = false := by simpa [ofI] using ho
      clear ho ht
      go_enter Tryz.func43, Tryz.ntmps43
      go_wp2_with fail
      go_ret
      exact ⟨rfl, rfl⟩
    · have o : decide (t < y) = false := by simpa [ofI] using ho
      clear ho ht
      go_enter Tryz.func43, Tryz.ntmps43
      go_wp2_with fail
      go_ret
      exact ⟨rfl, rfl⟩

end Go.Proofs.YtggjceolhbdalaaGreatDoor
