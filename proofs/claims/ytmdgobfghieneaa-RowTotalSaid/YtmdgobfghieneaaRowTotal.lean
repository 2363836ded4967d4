/- The law RowTotal: its walk, and the plain facts on the order. -/
import Derived.Test.YtmdgobfghieneaaRowOuts
namespace Go.Proofs.Ytmdgobfghieneaa
open Go.RowKit Go.Plan

/-! ### plain: the order of lists -/
theorem ordI_range (xs ys : List Int) : ordI xs ys = -1 ∨ ordI xs ys = 0 ∨ ordI xs ys = 1 := by
  induction xs generalizing ys with
  | nil => simp [ordI]
  | cons x xs ih =>
    cases ys with
    | nil => simp [ordI]
    | cons y ys =>
      simp only [ordI]
      split
      · simp
      · split
        · simp
        · exact ih ys

theorem ordI_swap (xs ys : List Int) : ordI ys xs = - ordI xs ys := by
  induction xs generalizing ys with
  | nil => cases ys <;> simp [ordI]
  | cons x xs ih =>
    cases ys with
    | nil => simp [ordI]
    | cons y ys =>
      simp only [ordI]
      by_cases h1 : x < y
      · have h2 : ¬ y < x := by omega
        simp [h1, h2]
      · by_cases h2 : y < x
        · simp [h1, h2]
        · simp [h1, h2, ih]

theorem ordI_zero (xs ys : List Int) (hl : xs.length = ys.length) : ordI xs ys = 0 ↔ xs = ys := by
  induction xs generalizing ys with
  | nil => cases ys <;> simp [ordI] at hl ⊢
  | cons x xs ih =>
    cases ys with
    | nil => simp at hl
    | cons y ys =>
      simp only [ordI]
      by_cases h1 : x < y
      · simp [h1]; omega
      · by_cases h2 : y < x
        · simp [h1, h2]; omega
        · have : x = y := by omega
          subst this
          simp [ih ys (by simpa using hl)]

theorem ordI_trans (xs ys zs : List Int) (h1 : xs.length = ys.length) (h2 : ys.length = zs.length) (p : ordI xs ys ≤ 0) (q : ordI ys zs ≤ 0) : ordI xs zs ≤ 0 := by
  induction xs generalizing ys zs with
  | nil => simp [ordI]
  | cons x xs ih =>
    match ys, zs, h1, h2 with
    | y :: ys, z :: zs, h1, h2 =>
      simp only [ordI] at p q ⊢
      by_cases a1 : x < y
      · by_cases b1 : y < z
        · have : x < z := by omega
          simp [this]
        · by_cases b2 : z < y
          · simp [b1, b2] at q
          · have : x < z := by omega
            simp [this]
      · by_cases a2 : y < x
        · simp [a1, a2] at p
        · simp only [a1, a2, if_false] at p
          by_cases b1 : y < z
          · have : x < z := by omega
            simp [this]
          · by_cases b2 : z < y
            · simp [b1, b2] at q
            · simp only [b1, b2, if_false] at q
              have c1 : ¬ x < z := by omega
              have c2 : ¬ z < x := by omega
              simp only [c1, c2, if_false]
              exact ih ys zs (by simpa using h1) (by simpa using h2) p q

def rowI (r : Row) : List Int := [r.k, r.t, r.v]
theorem compareI_ord (a b : Row) : compareI a.k a.t a.v b.k b.t b.v = ordI (rowI a) (rowI b) := (rcompareI_eq ..).symm
theorem compareOutI_ord (a b : Out) : compareOutI a b = ordI (outI a) (outI b) := (rcompareOutI_eq ..).symm
theorem rowI_inj {a b : Row} (h : rowI a = rowI b) : a = b := by
  obtain ⟨a1, a2, a3⟩ := a; obtain ⟨b1, b2, b3⟩ := b
  simp only [rowI, List.cons.injEq, and_true] at h
  obtain ⟨rfl, rfl, rfl⟩ := h; rfl
theorem flagI_inj {a b : Bool} (h : flagI a = flagI b) : a = b := by cases a <;> cases b <;> simp [flagI] at h <;> rfl
theorem outI_inj {a b : Out} (h : outI a = outI b) : a = b := by
  obtain ⟨a1, ⟨a2, a3, a4⟩, ⟨a5, a6, a7⟩, a8, a9⟩ := a; obtain ⟨b1, ⟨b2, b3, b4⟩, ⟨b5, b6, b7⟩, b8, b9⟩ := b
  simp only [outI, List.cons.injEq, and_true] at h
  obtain ⟨rfl, h8, rfl, rfl, rfl, h9, rfl, rfl, rfl⟩ := h
  rw [flagI_inj h8, flagI_inj h9]

/-! ### ordered -/
theorem ordered_c (w : World) : Calls Try.prog 19 #[] w fun e w' => e = .returned (.bool true) ∧ Ext w w' := by
  have c4 : ∀ w, Calls Try.prog 14 #[.agg #[.int .i64 1, .int .i64 0, .int .i64 0, .int .i64 0, .int .i64 1, .int .i64 2, .int .i64 3, .bool false, .bool true], .agg #[.int .i64 1, .int .i64 1, .int .i64 2, .int .i64 3, .int .i64 0, .int .i64 0, .int .i64 0, .bool true, .bool false]] w fun e w' => e = .returned (.int .i64 (-1)) ∧ Ext w w' := fun w => by
    have := compareOut_c ⟨1, ⟨0, 0, 0⟩, ⟨1, 2, 3⟩, false, true⟩ ⟨1, ⟨1, 2, 3⟩, ⟨0, 0, 0⟩, true, false⟩ w
    rwa [show compareOutI ⟨1, ⟨0, 0, 0⟩, ⟨1, 2, 3⟩, false, true⟩ ⟨1, ⟨1, 2, 3⟩, ⟨0, 0, 0⟩, true, false⟩ = -1 from by decide] at this
  have c9 : ∀ w, Calls Try.prog 10 #[.agg #[.int .i64 1, .int .i64 2, .int .i64 3], .agg #[.int .i64 1, .int .i64 3, .int .i64 0]] w fun e w' => e = .returned (.int .i64 (-1)) ∧ Ext w w' := fun w => by
    have := compare_c 1 2 3 1 3 0 w
    rwa [show compareI 1 2 3 1 3 0 = -1 from by decide] at this
  have c16 : ∀ w, Calls Try.prog 18 #[.agg #[.int .i64 1, .int .i64 1, .int .i64 0], .agg #[.int .i64 1, .int .i64 2, .int .i64 3], .agg #[.int .i64 1, .int .i64 3, .int .i64 0]] w fun e w' => e = .returned (.bool true) ∧ Ext w w' := fun w => by
    have := meets_c 1 1 0 1 2 3 1 3 0 w
    rwa [show meetsB 1 1 1 2 1 3 = true from by simp [meetsB, wrap64]] at this
  have C4 : Hid _ := c4
  have C9 : Hid _ := c9
  have C16 : Hid _ := c16
  clear c4 c9 c16
  go_enter Try.func19, Try.ntmps19
  go_wp2_with fail
  refine Plan.begin Plan.Ext 19 rfl (by kernel_rfl) ?_
  refine Plan.left_q 0 (by rfl) (by kernel_rfl) ?_; go_big_quiet_step (fail); refine wpQuiet_nil ?_
  refine Plan.left_q 2 (by rfl) (by kernel_rfl) ?_; go_big_quiet_step (fail); refine wpQuiet_nil ?_
  refine Plan.left_one 1 (by kernel_rfl) (by rfl) (Plan.plain rfl fun K hK => ?_)
  go_wp2_with (fail)
  refine (lone1_c 1 _ _ _ _ (by omega)).mono ?_
  rintro e w1 ⟨rfl, h1⟩
  have H1 := ExtM.trans _ _ _ (ExtM.refl _).drew h1
  obtain ⟨hc1, hf1, -⟩ := Ext.rules H1
  have hs1_0 : w.heap.size < w1.heap.size := by have := H1.size; (try simp at this); omega
  go_wp2_with (fail)
  refine hK _ _ h1 ?_
  clear hK K
  refine Plan.left_one 3 (by kernel_rfl) (by rfl) (Plan.plain rfl fun K hK => ?_)
  go_wp2_with (fail)
  refine (lone0_c _ _ _ _).mono ?_
  rintro e w2 ⟨rfl, h2⟩
  clear hc1 hf1 hs1_0
  have H2 := ExtM.trans _ _ _ H1 h2
  obtain ⟨hc2, hf2, -⟩ := Ext.rules H2
  have hs2_0 : w.heap.size < w2.heap.size := by have := H2.size; (try simp at this); omega
  go_wp2_with (fail)
  refine hK _ _ h2 ?_
  clear hK K
  refine Plan.left_one 4 (by kernel_rfl) (by rfl) (Plan.plain rfl fun K hK => ?_)
  go_wp2_with (fail)
  refine (C4.out _).mono ?_
  rintro e w3 ⟨rfl, h3⟩
  clear hc2 hf2 hs2_0
  have H3 := ExtM.trans _ _ _ H2 h3
  obtain ⟨hc3, hf3, -⟩ := Ext.rules H3
  have hs3_0 : w.heap.size < w3.heap.size := by have := H3.size; (try simp at this); omega
  go_wp2_with (fail)
  refine hK _ _ h3 ?_
  clear hK K
  refine Plan.left_q 5 (by rfl) (by kernel_rfl) ?_; go_big_quiet_step (fail); refine wpQuiet_nil ?_
  refine Plan.left_q 6 (by rfl) (by kernel_rfl) ?_; go_big_quiet_step (fail); refine wpQuiet_nil ?_
  refine Plan.left_q 7 (by rfl) (by kernel_rfl) ?_; go_big_quiet_step (fail); refine wpQuiet_nil ?_
  refine Plan.left_q 8 (by rfl) (by kernel_rfl) ?_; go_big_quiet_step (fail); refine wpQuiet_nil ?_
  refine Plan.left_one 9 (by kernel_rfl) (by rfl) (Plan.want rfl fun K hK => ?_)
  go_wp2_with (fail)
  refine (C9.out _).mono ?_
  rintro e w4 ⟨rfl, h4⟩
  clear hc3 hf3 hs3_0
  have H4 := ExtM.trans _ _ _ H3 h4
  obtain ⟨hc4, hf4, -⟩ := Ext.rules H4
  have hs4_0 : w.heap.size < w4.heap.size := by have := H4.size; (try simp at this); omega
  go_wp2_with (fail)
  refine hK _ _ h4 ?_
  clear hK K
  refine Plan.left_q 10 (by rfl) (by kernel_rfl) ?_; go_big_quiet_step (fail); refine wpQuiet_nil ?_
  refine Plan.left_q 11 (by rfl) (by kernel_rfl) ?_; go_big_quiet_step (fail); refine wpQuiet_nil ?_
  refine Plan.left_q 12 (by rfl) (by kernel_rfl) ?_; go_big_quiet_step (fail); refine wpQuiet_nil ?_
  refine Plan.left_q 13 (by rfl) (by kernel_rfl) ?_; go_big_quiet_step (fail); refine wpQuiet_nil ?_
  refine Plan.left_q 14 (by rfl) (by kernel_rfl) ?_; go_big_quiet_step (fail); refine wpQuiet_nil ?_
  refine Plan.left_q 15 (by rfl) (by kernel_rfl) ?_; go_big_quiet_step (fail); refine wpQuiet_nil ?_
  refine Plan.left_one 16 (by kernel_rfl) (by rfl) (Plan.want rfl fun K hK => ?_)
  go_wp2_with (fail)
  refine (C16.out _).mono ?_
  rintro e w5 ⟨rfl, h5⟩
  clear hc4 hf4 hs4_0
  have H5 := ExtM.trans _ _ _ H4 h5
  obtain ⟨hc5, hf5, -⟩ := Ext.rules H5
  have hs5_0 : w.heap.size < w5.heap.size := by have := H5.size; (try simp at this); omega
  go_wp2_with (fail)
  refine hK _ _ h5 ?_
  clear hK K
  refine Plan.left_q 17 (by rfl) (by kernel_rfl) ?_; go_big_quiet_step (fail); refine wpQuiet_nil ?_
  refine Plan.left_q 18 (by rfl) (by kernel_rfl) ?_; go_big_quiet_step (fail); refine wpQuiet_nil ?_
  refine Plan.left_done (by kernel_rfl) ?_
  go_wp2
  go_ret
  exact ⟨rfl, ExtM.trans _ _ _ ((ExtM.refl _).alloc _) H5⟩

def rowEq (a b : Row) : Bool := decide (a = b)
def outEq (a b : Out) : Bool := decide (a = b)

theorem eql_row (a b : Row) (w : World) : (binOp .eql 23 (.agg #[.int .i64 a.k, .int .i64 a.t, .int .i64 a.v]) (.agg #[.int .i64 b.k, .int .i64 b.t, .int .i64 b.v])).run Try.prog w = .ok (.bool (rowEq a b)) w := by
  obtain ⟨a1, a2, a3⟩ := a; obtain ⟨b1, b2, b3⟩ := b
  simp only [rowEq, Row.mk.injEq]
  go_simp
  by_cases h1 : a1 = b1 <;> by_cases h2 : a2 = b2 <;> by_cases h3 : a3 = b3 <;> simp [h1, h2, h3]

theorem eql_out (a b : Out) (w : World) : (binOp .eql 27 (.agg #[.int .i64 a.key, .int .i64 a.l.k, .int .i64 a.l.t, .int .i64 a.l.v, .int .i64 a.r.k, .int .i64 a.r.t, .int .i64 a.r.v, .bool a.hl, .bool a.hr]) (.agg #[.int .i64 b.key, .int .i64 b.l.k, .int .i64 b.l.t, .int .i64 b.l.v, .int .i64 b.r.k, .int .i64 b.r.t, .int .i64 b.r.v, .bool b.hl, .bool b.hr])).run Try.prog w = .ok (.bool (outEq a b)) w := by
  obtain ⟨a1, ⟨a2, a3, a4⟩, ⟨a5, a6, a7⟩, a8, a9⟩ := a; obtain ⟨b1, ⟨b2, b3, b4⟩, ⟨b5, b6, b7⟩, b8, b9⟩ := b
  simp only [outEq, Out.mk.injEq, Row.mk.injEq]
  go_simp
  by_cases h1 : a1 = b1
  · by_cases h2 : a2 = b2
    · by_cases h3 : a3 = b3
      · by_cases h4 : a4 = b4
        · by_cases h5 : a5 = b5
          · by_cases h6 : a6 = b6
            · by_cases h7 : a7 = b7
              · by_cases h8 : a8 = b8
                · by_cases h9 : a9 = b9
                  · simp [h1, h2, h3, h4, h5, h6, h7, h8, h9]
                  · simp [h1, h2, h3, h4, h5, h6, h7, h8, h9]
                · simp [h1, h2, h3, h4, h5, h6, h7, h8]
              · simp [h1, h2, h3, h4, h5, h6, h7]
            · simp [h1, h2, h3, h4, h5, h6]
          · simp [h1, h2, h3, h4, h5]
        · simp [h1, h2, h3, h4]
      · simp [h1, h2, h3]
    · simp [h1, h2]
  · simp [h1]

attribute [local go_sem ↓] eql_row eql_out

/-- Which of three ways: p > 0; p ≤ 0 and q > 0; both not, and r ≤ 0. -/
def Ways (p q r : Int) : Prop := 0 < p ∨ (p ≤ 0 ∧ 0 < q) ∨ (p ≤ 0 ∧ q ≤ 0 ∧ r ≤ 0)

def CompareSays (a b : Row) (p : Int) : Prop := ∀ w, Calls Try.prog 10 #[.agg #[.int .i64 a.k, .int .i64 a.t, .int .i64 a.v], .agg #[.int .i64 b.k, .int .i64 b.t, .int .i64 b.v]] w fun e w' => e = .returned (.int .i64 p) ∧ Ext w w'
def CompareOutSays (a b : Out) (p : Int) : Prop := ∀ w, Calls Try.prog 14 #[.agg #[.int .i64 a.key, .int .i64 a.l.k, .int .i64 a.l.t, .int .i64 a.l.v, .int .i64 a.r.k, .int .i64 a.r.t, .int .i64 a.r.v, .bool a.hl, .bool a.hr], .agg #[.int .i64 b.key, .int .i64 b.l.k, .int .i64 b.l.t, .int .i64 b.l.v, .int .i64 b.r.k, .int .i64 b.r.t, .int .i64 b.r.v, .bool b.hl, .bool b.hr]] w fun e w' => e = .returned (.int .i64 p) ∧ Ext w w'

set_option maxHeartbeats 1000000 in
theorem rowTotal_core (a b c : Row) (x y z : Out) (p q r u v t : Int) (w : World)
    (c1 : Hid (CompareSays a b p)) (c2 : Hid (CompareSays b c q)) (c3 : Hid (CompareSays a c r)) (c4 : Hid (CompareSays b a (-p)))
    (d1 : Hid (CompareOutSays x y u)) (d2 : Hid (CompareOutSays y z v)) (d3 : Hid (CompareOutSays x z t)) (d4 : Hid (CompareOutSays y x (-u)))
    (hp : -1 ≤ p) (hp' : p ≤ 1) (hu : -1 ≤ u) (hu' : u ≤ 1) (w1 : Ways p q r) (w2 : Ways u v t) (eR : ((p == 0) == rowEq a b) = true) (eO : ((u == 0) == outEq x y) = true) :
    Calls Try.prog 5 #[.agg #[.int .i64 a.k, .int .i64 a.t, .int .i64 a.v], .agg #[.int .i64 b.k, .int .i64 b.t, .int .i64 b.v], .agg #[.int .i64 c.k, .int .i64 c.t, .int .i64 c.v],
      .agg #[.int .i64 x.key, .int .i64 x.l.k, .int .i64 x.l.t, .int .i64 x.l.v, .int .i64 x.r.k, .int .i64 x.r.t, .int .i64 x.r.v, .bool x.hl, .bool x.hr], .agg #[.int .i64 y.key, .int .i64 y.l.k, .int .i64 y.l.t, .int .i64 y.l.v, .int .i64 y.r.k, .int .i64 y.r.t, .int .i64 y.r.v, .bool y.hl, .bool y.hr],
      .agg #[.int .i64 z.key, .int .i64 z.l.k, .int .i64 z.l.t, .int .i64 z.l.v, .int .i64 z.r.k, .int .i64 z.r.t, .int .i64 z.r.v, .bool z.hl, .bool z.hr]] w fun e w' => e = .returned (.bool true) ∧ Ext w w' := by
  go_enter Try.func5, Try.ntmps5
  go_wp2_with fail
  refine (ordered_c _).mono ?_
  rintro e w9 ⟨rfl, h9⟩
  have H9 : Ext _ w9 := ExtM.trans _ _ _ (ExtM.refl _) h9
  obtain ⟨hc9, hf9, -⟩ := Ext.rules H9
  have hs9_0 : w.heap.size < w9.heap.size := by have := H9.size; simp at this; omega
  have hs9_1 : w.heap.size + 1 < w9.heap.size := by have := H9.size; simp at this; omega
  have hs9_2 : w.heap.size + 2 < w9.heap.size := by have := H9.size; simp at this; omega
  have hs9_3 : w.heap.size + 3 < w9.heap.size := by have := H9.size; simp at this; omega
  have hs9_4 : w.heap.size + 4 < w9.heap.size := by have := H9.size; simp at this; omega
  have hs9_5 : w.heap.size + 5 < w9.heap.size := by have := H9.size; simp at this; omega
  have fin : Ext w w9 := ExtM.trans _ _ _ ((((((ExtM.refl _).alloc _).alloc _).alloc _).alloc _ |>.alloc _).alloc _) H9
  clear h9 H9
  go_wp2_with fail
  refine Plan.begin Plan.Ext 12 rfl (by kernel_rfl) ?_
  refine Plan.left_q 0 (by rfl) (by kernel_rfl) ?_; go_big_quiet_step (fail); refine wpQuiet_nil ?_
  refine Plan.left_q 1 (by rfl) (by kernel_rfl) ?_; go_big_quiet_step (fail); refine wpQuiet_nil ?_
  refine Plan.left_q 3 (by rfl) (by kernel_rfl) ?_; go_big_quiet_step (fail); refine wpQuiet_nil ?_
  refine Plan.left_q 4 (by rfl) (by kernel_rfl) ?_; go_big_quiet_step (fail); refine wpQuiet_nil ?_
  refine Plan.left_q 6 (by rfl) (by kernel_rfl) ?_; go_big_quiet_step (fail); refine wpQuiet_nil ?_
  refine Plan.left_q 7 (by rfl) (by kernel_rfl) ?_; go_big_quiet_step (fail); refine wpQuiet_nil ?_
  refine Plan.left_one 2 (by kernel_rfl) (by rfl) (Plan.plain rfl fun K hK => ?_)
  go_wp2_with (fail)
  refine (c1.out _).mono ?_
  rintro e w10 ⟨rfl, h10⟩
  have H10 := ExtM.trans _ _ _ (ExtM.refl _).drew h10
  obtain ⟨hc10, hf10, -⟩ := Ext.rules H10
  have hs10_0 : w.heap.size < w10.heap.size := by have := H10.size; (try simp at this); omega
  have hs10_1 : w.heap.size + 1 < w10.heap.size := by have := H10.size; (try simp at this); omega
  have hs10_2 : w.heap.size + 2 < w10.heap.size := by have := H10.size; (try simp at this); omega
  have hs10_3 : w.heap.size + 3 < w10.heap.size := by have := H10.size; (try simp at this); omega
  have hs10_4 : w.heap.size + 4 < w10.heap.size := by have := H10.size; (try simp at this); omega
  have hs10_5 : w.heap.size + 5 < w10.heap.size := by have := H10.size; (try simp at this); omega
  go_wp2_with (fail)
  refine hK _ _ h10 ?_
  clear hK K
  refine Plan.left_one 5 (by kernel_rfl) (by rfl) (Plan.plain rfl fun K hK => ?_)
  go_wp2_with (fail)
  refine (c2.out _).mono ?_
  rintro e w11 ⟨rfl, h11⟩
  clear hc10 hf10 hs10_0 hs10_1 hs10_2 hs10_3 hs10_4 hs10_5
  have H11 := ExtM.trans _ _ _ H10 h11
  obtain ⟨hc11, hf11, -⟩ := Ext.rules H11
  have hs11_0 : w.heap.size < w11.heap.size := by have := H11.size; (try simp at this); omega
  have hs11_1 : w.heap.size + 1 < w11.heap.size := by have := H11.size; (try simp at this); omega
  have hs11_2 : w.heap.size + 2 < w11.heap.size := by have := H11.size; (try simp at this); omega
  have hs11_3 : w.heap.size + 3 < w11.heap.size := by have := H11.size; (try simp at this); omega
  have hs11_4 : w.heap.size + 4 < w11.heap.size := by have := H11.size; (try simp at this); omega
  have hs11_5 : w.heap.size + 5 < w11.heap.size := by have := H11.size; (try simp at this); omega
  go_wp2_with (fail)
  refine hK _ _ h11 ?_
  clear hK K
  refine Plan.left_one 8 (by kernel_rfl) (by rfl) (Plan.plain rfl fun K hK => ?_)
  go_wp2_with (fail)
  refine (c3.out _).mono ?_
  rintro e w12 ⟨rfl, h12⟩
  clear hc11 hf11 hs11_0 hs11_1 hs11_2 hs11_3 hs11_4 hs11_5
  have H12 := ExtM.trans _ _ _ H11 h12
  obtain ⟨hc12, hf12, -⟩ := Ext.rules H12
  have hs12_0 : w.heap.size < w12.heap.size := by have := H12.size; (try simp at this); omega
  have hs12_1 : w.heap.size + 1 < w12.heap.size := by have := H12.size; (try simp at this); omega
  have hs12_2 : w.heap.size + 2 < w12.heap.size := by have := H12.size; (try simp at this); omega
  have hs12_3 : w.heap.size + 3 < w12.heap.size := by have := H12.size; (try simp at this); omega
  have hs12_4 : w.heap.size + 4 < w12.heap.size := by have := H12.size; (try simp at this); omega
  have hs12_5 : w.heap.size + 5 < w12.heap.size := by have := H12.size; (try simp at this); omega
  go_wp2_with (fail)
  refine hK _ _ h12 ?_
  clear hK K
  refine Plan.left_q 9 (by rfl) (by kernel_rfl) ?_; go_big_quiet_step (fail); refine wpQuiet_nil ?_
  refine Plan.left_q 10 (by rfl) (by kernel_rfl) ?_; go_big_quiet_step (fail); refine wpQuiet_nil ?_
  refine Plan.left_q 11 (by rfl) (by kernel_rfl) ?_; go_big_quiet_step (fail); refine wpQuiet_nil ?_
  refine Plan.left_done (by kernel_rfl) ?_
  go_wp2_with fail
  refine Plan.begin Plan.Ext 12 rfl (by kernel_rfl) ?_
  refine Plan.left_q 0 (by rfl) (by kernel_rfl) ?_; go_big_quiet_step (fail); refine wpQuiet_nil ?_
  refine Plan.left_q 1 (by rfl) (by kernel_rfl) ?_; go_big_quiet_step (fail); refine wpQuiet_nil ?_
  refine Plan.left_q 3 (by rfl) (by kernel_rfl) ?_; go_big_quiet_step (fail); refine wpQuiet_nil ?_
  refine Plan.left_q 4 (by rfl) (by kernel_rfl) ?_; go_big_quiet_step (fail); refine wpQuiet_nil ?_
  refine Plan.left_q 6 (by rfl) (by kernel_rfl) ?_; go_big_quiet_step (fail); refine wpQuiet_nil ?_
  refine Plan.left_q 7 (by rfl) (by kernel_rfl) ?_; go_big_quiet_step (fail); refine wpQuiet_nil ?_
  refine Plan.left_one 2 (by kernel_rfl) (by rfl) (Plan.plain rfl fun K hK => ?_)
  go_wp2_with (fail)
  refine (d1.out _).mono ?_
  rintro e w13 ⟨rfl, h13⟩
  have H13 := ExtM.trans _ _ _ (ExtM.refl _).drew h13
  obtain ⟨hc13, hf13, -⟩ := Ext.rules H13
  have hs13_0 : w.heap.size < w13.heap.size := by have := H13.size; (try simp at this); omega
  have hs13_1 : w.heap.size + 1 < w13.heap.size := by have := H13.size; (try simp at this); omega
  have hs13_2 : w.heap.size + 2 < w13.heap.size := by have := H13.size; (try simp at this); omega
  have hs13_3 : w.heap.size + 3 < w13.heap.size := by have := H13.size; (try simp at this); omega
  have hs13_4 : w.heap.size + 4 < w13.heap.size := by have := H13.size; (try simp at this); omega
  have hs13_5 : w.heap.size + 5 < w13.heap.size := by have := H13.size; (try simp at this); omega
  go_wp2_with (fail)
  refine hK _ _ h13 ?_
  clear hK K
  refine Plan.left_one 5 (by kernel_rfl) (by rfl) (Plan.plain rfl fun K hK => ?_)
  go_wp2_with (fail)
  refine (d2.out _).mono ?_
  rintro e w14 ⟨rfl, h14⟩
  clear hc13 hf13 hs13_0 hs13_1 hs13_2 hs13_3 hs13_4 hs13_5
  have H14 := ExtM.trans _ _ _ H13 h14
  obtain ⟨hc14, hf14, -⟩ := Ext.rules H14
  have hs14_0 : w.heap.size < w14.heap.size := by have := H14.size; (try simp at this); omega
  have hs14_1 : w.heap.size + 1 < w14.heap.size := by have := H14.size; (try simp at this); omega
  have hs14_2 : w.heap.size + 2 < w14.heap.size := by have := H14.size; (try simp at this); omega
  have hs14_3 : w.heap.size + 3 < w14.heap.size := by have := H14.size; (try simp at this); omega
  have hs14_4 : w.heap.size + 4 < w14.heap.size := by have := H14.size; (try simp at this); omega
  have hs14_5 : w.heap.size + 5 < w14.heap.size := by have := H14.size; (try simp at this); omega
  go_wp2_with (fail)
  refine hK _ _ h14 ?_
  clear hK K
  refine Plan.left_one 8 (by kernel_rfl) (by rfl) (Plan.plain rfl fun K hK => ?_)
  go_wp2_with (fail)
  refine (d3.out _).mono ?_
  rintro e w15 ⟨rfl, h15⟩
  clear hc14 hf14 hs14_0 hs14_1 hs14_2 hs14_3 hs14_4 hs14_5
  have H15 := ExtM.trans _ _ _ H14 h15
  obtain ⟨hc15, hf15, -⟩ := Ext.rules H15
  have hs15_0 : w.heap.size < w15.heap.size := by have := H15.size; (try simp at this); omega
  have hs15_1 : w.heap.size + 1 < w15.heap.size := by have := H15.size; (try simp at this); omega
  have hs15_2 : w.heap.size + 2 < w15.heap.size := by have := H15.size; (try simp at this); omega
  have hs15_3 : w.heap.size + 3 < w15.heap.size := by have := H15.size; (try simp at this); omega
  have hs15_4 : w.heap.size + 4 < w15.heap.size := by have := H15.size; (try simp at this); omega
  have hs15_5 : w.heap.size + 5 < w15.heap.size := by have := H15.size; (try simp at this); omega
  go_wp2_with (fail)
  refine hK _ _ h15 ?_
  clear hK K
  refine Plan.left_q 9 (by rfl) (by kernel_rfl) ?_; go_big_quiet_step (fail); refine wpQuiet_nil ?_
  refine Plan.left_q 10 (by rfl) (by kernel_rfl) ?_; go_big_quiet_step (fail); refine wpQuiet_nil ?_
  refine Plan.left_q 11 (by rfl) (by kernel_rfl) ?_; go_big_quiet_step (fail); refine wpQuiet_nil ?_
  refine Plan.left_done (by kernel_rfl) ?_
  have fin2 : Ext w w15 := ExtM.trans _ _ _ (ExtM.trans _ _ _ fin H12) H15
  clear fin h10 h11 h12 h13 h14 h15 H10 H11 H12 H13 H14 H15
  go_wp2_with fail
  refine (c4.out _).mono ?_
  rintro e w16 ⟨rfl, h16⟩
  obtain ⟨hc16, hf16, -⟩ := Ext.rules h16
  have fin3 : Ext w w16 := ExtM.trans _ _ _ fin2 h16
  have hs16_0 : w.heap.size < w16.heap.size := by have := h16.size; omega
  have hs16_1 : w.heap.size + 1 < w16.heap.size := by have := h16.size; omega
  have hs16_2 : w.heap.size + 2 < w16.heap.size := by have := h16.size; omega
  have hs16_3 : w.heap.size + 3 < w16.heap.size := by have := h16.size; omega
  have hs16_4 : w.heap.size + 4 < w16.heap.size := by have := h16.size; omega
  have hs16_5 : w.heap.size + 5 < w16.heap.size := by have := h16.size; omega
  clear h16 fin2
  have W2 : Hid (Ways u v t) := w2
  clear w2
  rcases w1 with j1 | ⟨j1, j2⟩ | ⟨j1, j2, j3⟩
  all_goals
    go_wp2_with fail
    refine (d4.out _).mono ?_
    rintro e w17 ⟨rfl, h17⟩
    obtain ⟨hc17, hf17, -⟩ := Ext.rules h17
    have fin4 : Ext w w17 := ExtM.trans _ _ _ fin3 h17
    clear h17 fin3 hs16_0 hs16_1 hs16_2 hs16_5
    rcases W2.out with k1 | ⟨k1, k2⟩ | ⟨k1, k2, k3⟩
    all_goals
      go_wp2_with fail
      go_ret
      exact ⟨ret_bool (by first | rfl | (simp; omega)), fin4⟩

theorem ways_of {xs ys zs : List Int} (h1 : xs.length = ys.length) (h2 : ys.length = zs.length) : Ways (ordI xs ys) (ordI ys zs) (ordI xs zs) := by
  unfold Ways
  rcases Int.lt_or_le 0 (ordI xs ys) with h | h
  · exact .inl h
  · rcases Int.lt_or_le 0 (ordI ys zs) with k | k
    · exact .inr (.inl ⟨h, k⟩)
    · exact .inr (.inr ⟨h, k, ordI_trans xs ys zs h1 h2 h k⟩)

theorem rowTotal_w (a b c : Row) (x y z : Out) (_ : a.ok) (_ : b.ok) (_ : c.ok) (_ : x.ok) (_ : y.ok) (_ : z.ok) (w : World) :
    Calls Try.prog 5 #[.agg #[.int .i64 a.k, .int .i64 a.t, .int .i64 a.v], .agg #[.int .i64 b.k, .int .i64 b.t, .int .i64 b.v], .agg #[.int .i64 c.k, .int .i64 c.t, .int .i64 c.v],
      .agg #[.int .i64 x.key, .int .i64 x.l.k, .int .i64 x.l.t, .int .i64 x.l.v, .int .i64 x.r.k, .int .i64 x.r.t, .int .i64 x.r.v, .bool x.hl, .bool x.hr], .agg #[.int .i64 y.key, .int .i64 y.l.k, .int .i64 y.l.t, .int .i64 y.l.v, .int .i64 y.r.k, .int .i64 y.r.t, .int .i64 y.r.v, .bool y.hl, .bool y.hr],
      .agg #[.int .i64 z.key, .int .i64 z.l.k, .int .i64 z.l.t, .int .i64 z.l.v, .int .i64 z.r.k, .int .i64 z.r.t, .int .i64 z.r.v, .bool z.hl, .bool z.hr]] w fun e w' => e = .returned (.bool true) ∧ Ext w w' := by
  have says (a b : Row) : CompareSays a b (ordI (rowI a) (rowI b)) := fun w => by rw [← compareI_ord]; exact compare_c _ _ _ _ _ _ w
  have saysO (a b : Out) : CompareOutSays a b (ordI (outI a) (outI b)) := fun w => by rw [← compareOutI_ord]; exact compareOut_c a b w
  refine rowTotal_core a b c x y z _ _ _ _ _ _ w (says a b) (says b c) (says a c) (by rw [← ordI_swap]; exact says b a) (saysO x y) (saysO y z) (saysO x z) (by rw [← ordI_swap]; exact saysO y x)
    (by rcases ordI_range (rowI a) (rowI b) with h | h | h <;> omega) (by rcases ordI_range (rowI a) (rowI b) with h | h | h <;> omega) (by rcases ordI_range (outI x) (outI y) with h | h | h <;> omega) (by rcases ordI_range (outI x) (outI y) with h | h | h <;> omega)
    (ways_of rfl rfl) (ways_of rfl rfl) ?_ ?_
  · have h := ordI_zero (rowI a) (rowI b) rfl
    by_cases e : a = b
    · have e0 := h.2 (by rw [e])
      rw [e0]; simp [rowEq, e]
    · have e0 : ordI (rowI a) (rowI b) ≠ 0 := fun h0 => e (rowI_inj (h.1 h0))
      simp [rowEq, e, e0]
  · have h := ordI_zero (outI x) (outI y) rfl
    by_cases e : x = y
    · have e0 := h.2 (by rw [e])
      rw [e0]; simp [outEq, e]
    · have e0 : ordI (outI x) (outI y) ≠ 0 := fun h0 => e (outI_inj (h.1 h0))
      simp [outEq, e, e0]
end Go.Proofs.Ytmdgobfghieneaa
