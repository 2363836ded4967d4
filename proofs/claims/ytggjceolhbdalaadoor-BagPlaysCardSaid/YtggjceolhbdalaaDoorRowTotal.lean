/- The law RowTotal: its walk, and the plain facts on the order. -/
import Derived.Test.YtggjceolhbdalaaDoorRowOuts
namespace Go.Proofs.YtggjceolhbdalaaDoor
open Go.RowKit Go.Plan

/-! ### plain: the order of lists -/
theorem ordI_range (xs ys : List Int) : ordI xs ys = -1 ∨ ordI xs ys = 0 ∨ ordI xs ys = 1 := by
  induction xs generalizing ys with
  | nil => simp [ordI]
  | cons x xs ih =>
    cases ys with
    | nil => simp [ordI]
    | cons y ys =>
      simp only [ordI]
      split
      · simp
      · split
        · simp
        · exact ih ys

theorem ordI_swap (xs ys : List Int) : ordI ys xs = - ordI xs ys := by
  induction xs generalizing ys with
  | nil => cases ys <;> simp [ordI]
  | cons x xs ih =>
    cases ys with
    | nil => simp [ordI]
    | cons y ys =>
      simp only [ordI]
      by_cases h1 : x < y
      · have h2 : ¬ y < x := by omega
        simp [h1, h2]
      · by_cases h2 : y < x
        · simp [h1, h2]
        · simp [h1, h2, ih]

theorem ordI_zero (xs ys : List Int) (hl : xs.length = ys.length) : ordI xs ys = 0 ↔ xs = ys := by
  induction xs generalizing ys with
  | nil => cases ys <;> simp [ordI] at hl ⊢
  | cons x xs ih =>
    cases ys with
    | nil => simp at hl
    | cons y ys =>
      simp only [ordI]
      by_cases h1 : x < y
      · simp [h1]; omega
      · by_cases h2 : y < x
        · simp [h1, h2]; omega
        · have : x = y := by omega
          subst this
          simp [ih ys (by simpa using hl)]

theorem ordI_trans (xs ys zs : List Int) (h1 : xs.length = ys.length) (h2 : ys.length = zs.length) (p : ordI xs ys ≤ 0) (q : ordI ys zs ≤ 0) : ordI xs zs ≤ 0 := by
  induction xs generalizing ys zs with
  | nil => simp [ordI]
  | cons x xs ih =>
    match ys, zs, h1, h2 with
    | y :: ys, z :: zs, h1, h2 =>
      simp only [ordI] at p q ⊢
      by_cases a1 : x < y
      · by_cases b1 : y < z
        · have : x < z := by omega
          simp [this]
        · by_cases b2 : z < y
          · simp [b1, b2] at q
          · have : x < z := by omega
            simp [this]
      · by_cases a2 : y < x
        · simp [a1, a2] at p
        · simp only [a1, a2, if_false] at p
          by_cases b1 : y < z
          · have : x < z := by omega
            simp [this]
          · by_cases b2 : z < y
            · simp [b1, b2] at q
            · simp only [b1, b2, if_false] at q
              have c1 : ¬ x < z := by omega
              have c2 : ¬ z < x := by omega
              simp only [c1, c2, if_false]
              exact ih ys zs (by simpa using h1) (by simpa using h2) p q

def rowI (r : Row) : List Int := [r.k, r.t, r.v]
theorem compareI_ord (a b : Row) : compareI a.k a.t a.v b.k b.t b.v = ordI (rowI a) (rowI b) := (rcompareI_eq ..).symm
theorem compareOutI_ord (a b : Out) : compareOutI a b = ordI (outI a) (outI b) := (rcompareOutI_eq ..).symm
theorem rowI_inj {a b : Row} (h : rowI a = rowI b) : a = b := by
  obtain ⟨a1, a2, a3⟩ := a; obtain ⟨b1, b2, b3⟩ := b
  simp only [rowI, List.cons.injEq, and_true] at h
  obtain ⟨rfl, rfl, rfl⟩ := h; rfl
theorem flagI_inj {a b : Bool} (h : flagI a = flagI b) : a = b := by cases a <;> cases b <;> simp [flagI] at h <;> rfl
theorem outI_inj {a b : Out} (h : outI a = outI b) : a = b := by
  obtain ⟨a1, ⟨a2, a3, a4⟩, ⟨a5, a6, a7⟩, a8, a9⟩ := a; obtain ⟨b1, ⟨b2, b3, b4⟩, ⟨b5, b6, b7⟩, b8, b9⟩ := b
  simp only [outI, List.cons.injEq, and_true] at h
  obtain ⟨rfl, h8, rfl, rfl, rfl, h9, rfl, rfl, rfl⟩ := h
  rw [flagI_inj h8, flagI_inj h9]

/-! ### ordered -/
def rowEq (a b : Row) : Bool := decide (a = b)
def outEq (a b : Out) : Bool := decide (a = b)

theorem eql_row (a b : Row) (w : World) : (binOp .eql 43 (.agg #[.int .i64 a.k, .int .i64 a.t, .int .i64 a.v]) (.agg #[.int .i64 b.k, .int .i64 b.t, .int .i64 b.v])).run Tryd.prog w = .ok (.bool (rowEq a b)) w := by
  obtain ⟨a1, a2, a3⟩ := a; obtain ⟨b1, b2, b3⟩ := b
  simp only [rowEq, Row.mk.injEq]
  go_simp
  by_cases h1 : a1 = b1 <;> by_cases h2 : a2 = b2 <;> by_cases h3 : a3 = b3 <;> simp [h1, h2, h3]

theorem eql_out (a b : Out) (w : World) : (binOp .eql 45 (.agg #[.int .i64 a.key, .int .i64 a.l.k, .int .i64 a.l.t, .int .i64 a.l.v, .int .i64 a.r.k, .int .i64 a.r.t, .int .i64 a.r.v, .bool a.hl, .bool a.hr]) (.agg #[.int .i64 b.key, .int .i64 b.l.k, .int .i64 b.l.t, .int .i64 b.l.v, .int .i64 b.r.k, .int .i64 b.r.t, .int .i64 b.r.v, .bool b.hl, .bool b.hr])).run Tryd.prog w = .ok (.bool (outEq a b)) w := by
  obtain ⟨a1, ⟨a2, a3, a4⟩, ⟨a5, a6, a7⟩, a8, a9⟩ := a; obtain ⟨b1, ⟨b2, b3, b4⟩, ⟨b5, b6, b7⟩, b8, b9⟩ := b
  simp only [outEq, Out.mk.injEq, Row.mk.injEq]
  go_simp
  by_cases h1 : a1 = b1
  · by_cases h2 : a2 = b2
    · by_cases h3 : a3 = b3
      · by_cases h4 : a4 = b4
        · by_cases h5 : a5 = b5
          · by_cases h6 : a6 = b6
            · by_cases h7 : a7 = b7
              · by_cases h8 : a8 = b8
                · by_cases h9 : a9 = b9
                  · simp [h1, h2, h3, h4, h5, h6, h7, h8, h9]
                  · simp [h1, h2, h3, h4, h5, h6, h7, h8, h9]
                · simp [h1, h2, h3, h4, h5, h6, h7, h8]
              · simp [h1, h2, h3, h4, h5, h6, h7]
            · simp [h1, h2, h3, h4, h5, h6]
          · simp [h1, h2, h3, h4, h5]
        · simp [h1, h2, h3, h4]
      · simp [h1, h2, h3]
    · simp [h1, h2]
  · simp [h1]

attribute [local go_sem ↓] eql_row eql_out

/-- Which of three ways: p > 0; p ≤ 0 and q > 0; both not, and r ≤ 0. -/
def Ways (p q r : Int) : Prop := 0 < p ∨ (p ≤ 0 ∧ 0 < q) ∨ (p ≤ 0 ∧ q ≤ 0 ∧ r ≤ 0)

def CompareSays (a b : Row) (p : Int) : Prop := ∀ w, Calls Tryd.prog 69 #[.agg #[.int .i64 a.k, .int .i64 a.t, .int .i64 a.v], .agg #[.int .i64 b.k, .int .i64 b.t, .int .i64 b.v]] w fun e w' => e = .returned (.int .i64 p) ∧ Ext w w'
def CompareOutSays (a b : Out) (p : Int) : Prop := ∀ w, Calls Tryd.prog 44 #[.agg #[.int .i64 a.key, .int .i64 a.l.k, .int .i64 a.l.t, .int .i64 a.l.v, .int .i64 a.r.k, .int .i64 a.r.t, .int .i64 a.r.v, .bool a.hl, .bool a.hr], .agg #[.int .i64 b.key, .int .i64 b.l.k, .int .i64 b.l.t, .int .i64 b.l.v, .int .i64 b.r.k, .int .i64 b.r.t, .int .i64 b.r.v, .bool b.hl, .bool b.hr]] w fun e w' => e = .returned (.int .i64 p) ∧ Ext w w'

theorem ways_of {xs ys zs : List Int} (h1 : xs.length = ys.length) (h2 : ys.length = zs.length) : Ways (ordI xs ys) (ordI ys zs) (ordI xs zs) := by
  unfold Ways
  rcases Int.lt_or_le 0 (ordI xs ys) with h | h
  · exact .inl h
  · rcases Int.lt_or_le 0 (ordI ys zs) with k | k
    · exact .inr (.inl ⟨h, k⟩)
    · exact .inr (.inr ⟨h, k, ordI_trans xs ys zs h1 h2 h k⟩)

end Go.Proofs.YtggjceolhbdalaaDoor
