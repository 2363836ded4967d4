/- The one order of Outs, sorted lists of them; slices.SortFunc by row.CompareOut. -/
import Derived.Test.YtmcgnnmffeojpaaGreatDoorPk4
import Derived.Test.YtmcgnnmffeojpaaGreatDoorPk5
import Derived.Test.YtmcgnnmffeojpaaGreatDoorPk8
import Derived.Shelf.SlSortCmp.NoneTotal
import Derived.Shelf.Lay
import Derived.Ground.SlsfProg
/- The laws of row (1.1): the walks of RowOrder, RowOuts, RowTotal. -/
namespace Go.Proofs.YtmcgnnmffeojpaaGreatDoor
open Go.RowKit Go.Plan

theorem cmpI_or (a b : Int) (r : Int) : (if cmpI a b = 0 then r else cmpI a b) = if a < b then -1 else if b < a then 1 else r := by
  unfold cmpI
  split
  · split <;> simp_all
  · split
    · simp_all
    · simp_all

theorem rcompareI_eq (k1 t1 v1 k2 t2 v2 : Int) : rcompareI k1 t1 v1 k2 t2 v2 = compareI k1 t1 v1 k2 t2 v2 := by
  simp only [rcompareI, compareI, ordI, orI, cmpI_or]

theorem compareI_or (k1 t1 v1 k2 t2 v2 : Int) (r : Int) : (if compareI k1 t1 v1 k2 t2 v2 = 0 then r else compareI k1 t1 v1 k2 t2 v2) = (if k1 < k2 then -1 else if k2 < k1 then 1 else if t1 < t2 then -1 else if t2 < t1 then 1 else if v1 < v2 then -1 else if v2 < v1 then 1 else r) := by
  simp only [compareI, orI, cmpI_or]
  by_cases h1 : k1 < k2 <;> by_cases h2 : k2 < k1 <;> by_cases h3 : t1 < t2 <;> by_cases h4 : t2 < t1 <;> by_cases h5 : v1 < v2 <;> by_cases h6 : v2 < v1 <;> simp [h1, h2, h3, h4, h5, h6]

theorem rcompareOutI_eq (a b : Out) : rcompareOutI a b = compareOutI a b := by
  simp only [rcompareOutI, compareOutI, outI, ordI, orI, cmpI_or, compareI_or]

end Go.Proofs.YtmcgnnmffeojpaaGreatDoor
/- The law RowOuts (1.1): its walk. -/
namespace Go.Proofs.YtmcgnnmffeojpaaGreatDoor
open Go.RowKit Go.Plan

theorem olone0_c (k t v : Int) (w : World) :
    Calls Tryz.prog 26 #[.int .i64 0, .agg #[.int .i64 k, .int .i64 t, .int .i64 v]] w fun e w' =>
      e = .returned (.agg #[.int .i64 k, .int .i64 k, .int .i64 t, .int .i64 v, .int .i64 0, .int .i64 0, .int .i64 0, .bool true, .bool false]) ∧ Ext w w' := by
  have := lone_c 0 k t v w; rwa [if_pos rfl] at this
theorem olone1_c (s k t v : Int) (w : World) (hs : s ≠ 0) :
    Calls Tryz.prog 26 #[.int .i64 s, .agg #[.int .i64 k, .int .i64 t, .int .i64 v]] w fun e w' =>
      e = .returned (.agg #[.int .i64 k, .int .i64 0, .int .i64 0, .int .i64 0, .int .i64 k, .int .i64 t, .int .i64 v, .bool false, .bool true]) ∧ Ext w w' := by
  have := lone_c s k t v w; rwa [if_neg hs] at this
/-- The value of Lone, whichever the side, as the walk meets it. -/
def loneC (s k t v : Int) : Array Value := if s = 0 then #[.int .i64 k, .int .i64 k, .int .i64 t, .int .i64 v, .int .i64 0, .int .i64 0, .int .i64 0, .bool true, .bool false] else #[.int .i64 k, .int .i64 0, .int .i64 0, .int .i64 0, .int .i64 k, .int .i64 t, .int .i64 v, .bool false, .bool true]

/-- Whichever of the two the answer is. -/
def Bi (g : Bool) (w : World) (e : Ending) (w' : World) : Prop := e = .returned (.bool g) ∧ Ext w w'

structure PlanR where
  lo : Int
  hi : Int
  mo : Int
def PlanR.ok (p : PlanR) : Prop := I64 p.lo ∧ I64 p.hi ∧ I64 p.mo

open Go.ChangeShapes Go.WideShapes Go.ChangeAt Go.Joins Go.Deep in
set_option maxRecDepth 100000 in
theorem plan_arg {H : Type} {enc : TypeId × Value → H} {w : World} {base : Nat} {spare : Nat → Bool} {held : Bool} {r : Reach} {b0 : Nat} {v : Value} {d : DataW H} {p : List MemPlace} (hv : Value.okWide Tryz.prog w r b0 32 v) (h : DataW.Trod enc Tryz.prog w base spare held 32 v d p) :
    ∃ q : PlanR, v = .agg #[.int .i64 q.lo, .int .i64 q.hi, .int .i64 q.mo] ∧ q.ok := by
  obtain ⟨cs, rfl, hsz⟩ := okWide_struct Tryz.underlying32 hv
  obtain ⟨fuel, hf⟩ := h
  obtain ⟨y0, y1, y2, n, -, hl, h0, h1, h2⟩ := trod_struct3 Tryz.underlying32 hf
  obtain ⟨l⟩ := cs
  have cellsPlan : Tryz.prog.cellsOf 32 = 3 := by kernel_rfl
  rw [cellsPlan] at hl
  simp only [Value.cells] at hl h0 h1 h2
  match l, hl with
  | [c0, c1, c2], _ =>
    obtain ⟨a, rfl, wa⟩ := int_cell (c := c0) (by simpa [cellsInt] using h0)
    obtain ⟨b, rfl, wb⟩ := int_cell (c := c1) (by simpa [cellsInt] using h1)
    obtain ⟨c, rfl, wc⟩ := int_cell (c := c2) (by simpa [cellsInt] using h2)
    exact ⟨⟨a, b, c⟩, rfl, wa, wb, wc⟩
end Go.Proofs.YtmcgnnmffeojpaaGreatDoor
/- The law RowTotal: its walk, and the plain facts on the order. -/
namespace Go.Proofs.YtmcgnnmffeojpaaGreatDoor
open Go.RowKit Go.Plan

/-! ### plain: the order of lists -/
theorem ordI_range (xs ys : List Int) : ordI xs ys = -1 ∨ ordI xs ys = 0 ∨ ordI xs ys = 1 := by
  induction xs generalizing ys with
  | nil => simp [ordI]
  | cons x xs ih =>
    cases ys with
    | nil => simp [ordI]
    | cons y ys =>
      simp only [ordI]
      split
      · simp
      · split
        · simp
        · exact ih ys

theorem ordI_swap (xs ys : List Int) : ordI ys xs = - ordI xs ys := by
  induction xs generalizing ys with
  | nil => cases ys <;> simp [ordI]
  | cons x xs ih =>
    cases ys with
    | nil => simp [ordI]
    | cons y ys =>
      simp only [ordI]
      by_cases h1 : x < y
      · have h2 : ¬ y < x := by omega
        simp [h1, h2]
      · by_cases h2 : y < x
        · simp [h1, h2]
        · simp [h1, h2, ih]

theorem ordI_zero (xs ys : List Int) (hl : xs.length = ys.length) : ordI xs ys = 0 ↔ xs = ys := by
  induction xs generalizing ys with
  | nil => cases ys <;> simp [ordI] at hl ⊢
  | cons x xs ih =>
    cases ys with
    | nil => simp at hl
    | cons y ys =>
      simp only [ordI]
      by_cases h1 : x < y
      · simp [h1]; omega
      · by_cases h2 : y < x
        · simp [h1, h2]; omega
        · have : x = y := by omega
          subst this
          simp [ih ys (by simpa using hl)]

theorem ordI_trans (xs ys zs : List Int) (h1 : xs.length = ys.length) (h2 : ys.length = zs.length) (p : ordI xs ys ≤ 0) (q : ordI ys zs ≤ 0) : ordI xs zs ≤ 0 := by
  induction xs generalizing ys zs with
  | nil => simp [ordI]
  | cons x xs ih =>
    match ys, zs, h1, h2 with
    | y :: ys, z :: zs, h1, h2 =>
      simp only [ordI] at p q ⊢
      by_cases a1 : x < y
      · by_cases b1 : y < z
        · have : x < z := by omega
          simp [this]
        · by_cases b2 : z < y
          · simp [b1, b2] at q
          · have : x < z := by omega
            simp [this]
      · by_cases a2 : y < x
        · simp [a1, a2] at p
        · simp only [a1, a2, if_false] at p
          by_cases b1 : y < z
          · have : x < z := by omega
            simp [this]
          · by_cases b2 : z < y
            · simp [b1, b2] at q
            · simp only [b1, b2, if_false] at q
              have c1 : ¬ x < z := by omega
              have c2 : ¬ z < x := by omega
              simp only [c1, c2, if_false]
              exact ih ys zs (by simpa using h1) (by simpa using h2) p q

def rowI (r : Row) : List Int := [r.k, r.t, r.v]
theorem compareI_ord (a b : Row) : compareI a.k a.t a.v b.k b.t b.v = ordI (rowI a) (rowI b) := (rcompareI_eq ..).symm
theorem compareOutI_ord (a b : Out) : compareOutI a b = ordI (outI a) (outI b) := (rcompareOutI_eq ..).symm
theorem rowI_inj {a b : Row} (h : rowI a = rowI b) : a = b := by
  obtain ⟨a1, a2, a3⟩ := a; obtain ⟨b1, b2, b3⟩ := b
  simp only [rowI, List.cons.injEq, and_true] at h
  obtain ⟨rfl, rfl, rfl⟩ := h; rfl
theorem flagI_inj {a b : Bool} (h : flagI a = flagI b) : a = b := by cases a <;> cases b <;> simp [flagI] at h <;> rfl
theorem outI_inj {a b : Out} (h : outI a = outI b) : a = b := by
  obtain ⟨a1, ⟨a2, a3, a4⟩, ⟨a5, a6, a7⟩, a8, a9⟩ := a; obtain ⟨b1, ⟨b2, b3, b4⟩, ⟨b5, b6, b7⟩, b8, b9⟩ := b
  simp only [outI, List.cons.injEq, and_true] at h
  obtain ⟨rfl, h8, rfl, rfl, rfl, h9, rfl, rfl, rfl⟩ := h
  rw [flagI_inj h8, flagI_inj h9]

/-! ### ordered -/
def rowEq (a b : Row) : Bool := decide (a = b)
def outEq (a b : Out) : Bool := decide (a = b)

theorem eql_row (a b : Row) (w : World) : (binOp .eql 56 (.agg #[.int .i64 a.k, .int .i64 a.t, .int .i64 a.v]) (.agg #[.int .i64 b.k, .int .i64 b.t, .int .i64 b.v])).run Tryz.prog w = .ok (.bool (rowEq a b)) w := by
  obtain ⟨a1, a2, a3⟩ := a; obtain ⟨b1, b2, b3⟩ := b
  simp only [rowEq, Row.mk.injEq]
  go_simp
  by_cases h1 : a1 = b1 <;> by_cases h2 : a2 = b2 <;> by_cases h3 : a3 = b3 <;> simp [h1, h2, h3]

theorem eql_out (a b : Out) (w : World) : (binOp .eql 58 (.agg #[.int .i64 a.key, .int .i64 a.l.k, .int .i64 a.l.t, .int .i64 a.l.v, .int .i64 a.r.k, .int .i64 a.r.t, .int .i64 a.r.v, .bool a.hl, .bool a.hr]) (.agg #[.int .i64 b.key, .int .i64 b.l.k, .int .i64 b.l.t, .int .i64 b.l.v, .int .i64 b.r.k, .int .i64 b.r.t, .int .i64 b.r.v, .bool b.hl, .bool b.hr])).run Tryz.prog w = .ok (.bool (outEq a b)) w := by
  obtain ⟨a1, ⟨a2, a3, a4⟩, ⟨a5, a6, a7⟩, a8, a9⟩ := a; obtain ⟨b1, ⟨b2, b3, b4⟩, ⟨b5, b6, b7⟩, b8, b9⟩ := b
  simp only [outEq, Out.mk.injEq, Row.mk.injEq]
  go_simp
  by_cases h1 : a1 = b1
  · by_cases h2 : a2 = b2
    · by_cases h3 : a3 = b3
      · by_cases h4 : a4 = b4
        · by_cases h5 : a5 = b5
          · by_cases h6 : a6 = b6
            · by_cases h7 : a7 = b7
              · by_cases h8 : a8 = b8
                · by_cases h9 : a9 = b9
                  · simp [h1, h2, h3, h4, h5, h6, h7, h8, h9]
                  · simp [h1, h2, h3, h4, h5, h6, h7, h8, h9]
                · simp [h1, h2, h3, h4, h5, h6, h7, h8]
              · simp [h1, h2, h3, h4, h5, h6, h7]
            · simp [h1, h2, h3, h4, h5, h6]
          · simp [h1, h2, h3, h4, h5]
        · simp [h1, h2, h3, h4]
      · simp [h1, h2, h3]
    · simp [h1, h2]
  · simp [h1]

attribute [local go_sem ↓] eql_row eql_out

/-- Which of three ways: p > 0; p ≤ 0 and q > 0; both not, and r ≤ 0. -/
def Ways (p q r : Int) : Prop := 0 < p ∨ (p ≤ 0 ∧ 0 < q) ∨ (p ≤ 0 ∧ q ≤ 0 ∧ r ≤ 0)

def CompareSays (a b : Row) (p : Int) : Prop := ∀ w, Calls Tryz.prog 93 #[.agg #[.int .i64 a.k, .int .i64 a.t, .int .i64 a.v], .agg #[.int .i64 b.k, .int .i64 b.t, .int .i64 b.v]] w fun e w' => e = .returned (.int .i64 p) ∧ Ext w w'
def CompareOutSays (a b : Out) (p : Int) : Prop := ∀ w, Calls Tryz.prog 55 #[.agg #[.int .i64 a.key, .int .i64 a.l.k, .int .i64 a.l.t, .int .i64 a.l.v, .int .i64 a.r.k, .int .i64 a.r.t, .int .i64 a.r.v, .bool a.hl, .bool a.hr], .agg #[.int .i64 b.key, .int .i64 b.l.k, .int .i64 b.l.t, .int .i64 b.l.v, .int .i64 b.r.k, .int .i64 b.r.t, .int .i64 b.r.v, .bool b.hl, .bool b.hr]] w fun e w' => e = .returned (.int .i64 p) ∧ Ext w w'

theorem ways_of {xs ys zs : List Int} (h1 : xs.length = ys.length) (h2 : ys.length = zs.length) : Ways (ordI xs ys) (ordI ys zs) (ordI xs zs) := by
  unfold Ways
  rcases Int.lt_or_le 0 (ordI xs ys) with h | h
  · exact .inl h
  · rcases Int.lt_or_le 0 (ordI ys zs) with k | k
    · exact .inr (.inl ⟨h, k⟩)
    · exact .inr (.inr ⟨h, k, ordI_trans xs ys zs h1 h2 h k⟩)

end Go.Proofs.YtmcgnnmffeojpaaGreatDoor
namespace Go.Proofs.YtmcgnnmffeojpaaGreatDoor
open Go.RowKit Go.Plan Go.Sort

theorem outI_len (a : Out) : (outI a).length = 9 := rfl
theorem compareOut_swap (a b : Out) : compareOutI b a = - compareOutI a b := by rw [compareOutI_ord, compareOutI_ord, ordI_swap]
theorem compareOut_trans (a b c : Out) (p : compareOutI a b ≤ 0) (q : compareOutI b c ≤ 0) : compareOutI a c ≤ 0 := by
  rw [compareOutI_ord] at *
  exact ordI_trans (outI a) (outI b) (outI c) rfl rfl p q
theorem compareOut_zero (a b : Out) : compareOutI a b = 0 ↔ a = b := by
  rw [compareOutI_ord, ordI_zero (outI a) (outI b) rfl]
  exact ⟨outI_inj, fun h => by rw [h]⟩

theorem swoOut : SWO (ltOf compareOutI) where
  irrefl x := by unfold ltOf; rw [(compareOut_zero x x).2 rfl]; rfl
  trans x y z h1 h2 := by
    simp only [ltOf, decide_eq_true_eq] at *
    have h3 := compareOut_trans x y z (by omega) (by omega)
    rcases Int.lt_or_eq_of_le h3 with h | h
    · exact h
    · have e := (compareOut_zero x z).1 h
      subst e
      have := compareOut_swap x y
      omega
  ntrans x y z h1 h2 := by
    simp only [ltOf, decide_eq_false_iff_not] at *
    have a := compareOut_swap x y
    have b := compareOut_swap y z
    have c := compareOut_swap x z
    have := compareOut_trans z y x (by omega) (by omega)
    omega
theorem totOut (x y : Out) (h1 : ltOf compareOutI x y = false) (h2 : ltOf compareOutI y x = false) : x = y := by
  simp only [ltOf, decide_eq_false_iff_not] at *
  have a := compareOut_swap x y
  exact (compareOut_zero x y).1 (by omega)

/-- These, in their order. -/
def sortO (l : List Out) : List Out := l.mergeSort fun x y => !(ltOf compareOutI) y x

theorem leO (x y : Out) : (!(ltOf compareOutI) y x) = decide (compareOutI x y ≤ 0) := by
  have := compareOut_swap x y
  unfold ltOf
  by_cases h : compareOutI y x < 0
  · simp [h]; omega
  · simp [h]; omega
theorem sortO_perm (l : List Out) : (sortO l).Perm l := List.mergeSort_perm _ _
theorem sortO_sorted (l : List Out) : (sortO l).Pairwise fun x y => compareOutI x y ≤ 0 := by
  have := List.pairwise_mergeSort (le := fun x y => !(ltOf compareOutI) y x) (fun a b c h1 h2 => by
    rw [leO] at *
    simp only [decide_eq_true_eq] at *
    exact compareOut_trans a b c h1 h2) (fun a b => by
    rw [leO, leO]
    have := compareOut_swap a b
    simp only [Bool.or_eq_true, decide_eq_true_eq]
    omega) l
  exact this.imp (fun h => by rw [leO] at h; simpa using h)
theorem sorted_unique {l l' : List Out} (hp : l.Perm l') (h : l.Pairwise fun x y => compareOutI x y ≤ 0) (h' : l'.Pairwise fun x y => compareOutI x y ≤ 0) : l = l' :=
  hp.eq_of_pairwise (fun a b _ _ h1 h2 => (compareOut_zero a b).1 (by have := compareOut_swap a b; omega)) h h'
theorem sortO_of_perm {l l' : List Out} (hp : l.Perm l') : sortO l = sortO l' :=
  sorted_unique ((sortO_perm l).trans (hp.trans (sortO_perm l').symm)) (sortO_sorted l) (sortO_sorted l')
theorem sortO_length (l : List Out) : (sortO l).length = l.length := (sortO_perm l).length_eq

instance : Inhabited Out := ⟨⟨0, ⟨0, 0, 0⟩, ⟨0, 0, 0⟩, false, false⟩⟩
end Go.Proofs.YtmcgnnmffeojpaaGreatDoor
