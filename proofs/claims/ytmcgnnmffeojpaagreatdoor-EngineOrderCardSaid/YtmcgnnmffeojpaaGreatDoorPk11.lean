/- Rows of Outs in memory; slices.SortFunc of them by row.CompareOut. -/
import Derived.Test.YtmcgnnmffeojpaaGreatDoorPk5
import Derived.Test.YtmcgnnmffeojpaaGreatDoorPk6
import Derived.Test.YtmcgnnmffeojpaaGreatDoorPk10
import Derived.Shelf.SlSortCmp.NoneTotal
import Derived.Shelf.Lay
import Derived.Ground.SlsfProg
import Derived.Test.YtmcgnnmffeojpaaGreatDoorProg
import Derived.Laws.AppendOwn
/- The laws of row (1.1): the walks of RowOrder, RowOuts, RowTotal. -/
namespace Go.Proofs.YtmcgnnmffeojpaaGreatDoor
open Go.RowKit Go.Plan

theorem cmpI_or (a b : Int) (r : Int) : (if cmpI a b = 0 then r else cmpI a b) = if a < b then -1 else if b < a then 1 else r := by
  unfold cmpI
  split
  · split <;> simp_all
  · split
    · simp_all
    · simp_all

theorem rcompareI_eq (k1 t1 v1 k2 t2 v2 : Int) : rcompareI k1 t1 v1 k2 t2 v2 = compareI k1 t1 v1 k2 t2 v2 := by
  simp only [rcompareI, compareI, ordI, orI, cmpI_or]

theorem compareI_or (k1 t1 v1 k2 t2 v2 : Int) (r : Int) : (if compareI k1 t1 v1 k2 t2 v2 = 0 then r else compareI k1 t1 v1 k2 t2 v2) = (if k1 < k2 then -1 else if k2 < k1 then 1 else if t1 < t2 then -1 else if t2 < t1 then 1 else if v1 < v2 then -1 else if v2 < v1 then 1 else r) := by
  simp only [compareI, orI, cmpI_or]
  by_cases h1 : k1 < k2 <;> by_cases h2 : k2 < k1 <;> by_cases h3 : t1 < t2 <;> by_cases h4 : t2 < t1 <;> by_cases h5 : v1 < v2 <;> by_cases h6 : v2 < v1 <;> simp [h1, h2, h3, h4, h5, h6]

theorem rcompareOutI_eq (a b : Out) : rcompareOutI a b = compareOutI a b := by
  simp only [rcompareOutI, compareOutI, outI, ordI, orI, cmpI_or, compareI_or]

end Go.Proofs.YtmcgnnmffeojpaaGreatDoor
/- The law RowOuts (1.1): its walk. -/
namespace Go.Proofs.YtmcgnnmffeojpaaGreatDoor
open Go.RowKit Go.Plan

theorem olone0_c (k t v : Int) (w : World) :
    Calls Tryz.prog 26 #[.int .i64 0, .agg #[.int .i64 k, .int .i64 t, .int .i64 v]] w fun e w' =>
      e = .returned (.agg #[.int .i64 k, .int .i64 k, .int .i64 t, .int .i64 v, .int .i64 0, .int .i64 0, .int .i64 0, .bool true, .bool false]) ∧ Ext w w' := by
  have := lone_c 0 k t v w; rwa [if_pos rfl] at this
theorem olone1_c (s k t v : Int) (w : World) (hs : s ≠ 0) :
    Calls Tryz.prog 26 #[.int .i64 s, .agg #[.int .i64 k, .int .i64 t, .int .i64 v]] w fun e w' =>
      e = .returned (.agg #[.int .i64 k, .int .i64 0, .int .i64 0, .int .i64 0, .int .i64 k, .int .i64 t, .int .i64 v, .bool false, .bool true]) ∧ Ext w w' := by
  have := lone_c s k t v w; rwa [if_neg hs] at this
/-- The value of Lone, whichever the side, as the walk meets it. -/
def loneC (s k t v : Int) : Array Value := if s = 0 then #[.int .i64 k, .int .i64 k, .int .i64 t, .int .i64 v, .int .i64 0, .int .i64 0, .int .i64 0, .bool true, .bool false] else #[.int .i64 k, .int .i64 0, .int .i64 0, .int .i64 0, .int .i64 k, .int .i64 t, .int .i64 v, .bool false, .bool true]

/-- Whichever of the two the answer is. -/
def Bi (g : Bool) (w : World) (e : Ending) (w' : World) : Prop := e = .returned (.bool g) ∧ Ext w w'

structure PlanR where
  lo : Int
  hi : Int
  mo : Int
def PlanR.ok (p : PlanR) : Prop := I64 p.lo ∧ I64 p.hi ∧ I64 p.mo

open Go.ChangeShapes Go.WideShapes Go.ChangeAt Go.Joins Go.Deep in
set_option maxRecDepth 100000 in
theorem plan_arg {H : Type} {enc : TypeId × Value → H} {w : World} {base : Nat} {spare : Nat → Bool} {held : Bool} {r : Reach} {b0 : Nat} {v : Value} {d : DataW H} {p : List MemPlace} (hv : Value.okWide Tryz.prog w r b0 32 v) (h : DataW.Trod enc Tryz.prog w base spare held 32 v d p) :
    ∃ q : PlanR, v = .agg #[.int .i64 q.lo, .int .i64 q.hi, .int .i64 q.mo] ∧ q.ok := by
  obtain ⟨cs, rfl, hsz⟩ := okWide_struct Tryz.underlying32 hv
  obtain ⟨fuel, hf⟩ := h
  obtain ⟨y0, y1, y2, n, -, hl, h0, h1, h2⟩ := trod_struct3 Tryz.underlying32 hf
  obtain ⟨l⟩ := cs
  have cellsPlan : Tryz.prog.cellsOf 32 = 3 := by kernel_rfl
  rw [cellsPlan] at hl
  simp only [Value.cells] at hl h0 h1 h2
  match l, hl with
  | [c0, c1, c2], _ =>
    obtain ⟨a, rfl, wa⟩ := int_cell (c := c0) (by simpa [cellsInt] using h0)
    obtain ⟨b, rfl, wb⟩ := int_cell (c := c1) (by simpa [cellsInt] using h1)
    obtain ⟨c, rfl, wc⟩ := int_cell (c := c2) (by simpa [cellsInt] using h2)
    exact ⟨⟨a, b, c⟩, rfl, wa, wb, wc⟩
end Go.Proofs.YtmcgnnmffeojpaaGreatDoor
/- The law RowTotal: its walk, and the plain facts on the order. -/
namespace Go.Proofs.YtmcgnnmffeojpaaGreatDoor
open Go.RowKit Go.Plan

/-! ### plain: the order of lists -/
theorem ordI_range (xs ys : List Int) : ordI xs ys = -1 ∨ ordI xs ys = 0 ∨ ordI xs ys = 1 := by
  induction xs generalizing ys with
  | nil => simp [ordI]
  | cons x xs ih =>
    cases ys with
    | nil => simp [ordI]
    | cons y ys =>
      simp only [ordI]
      split
      · simp
      · split
        · simp
        · exact ih ys

theorem ordI_swap (xs ys : List Int) : ordI ys xs = - ordI xs ys := by
  induction xs generalizing ys with
  | nil => cases ys <;> simp [ordI]
  | cons x xs ih =>
    cases ys with
    | nil => simp [ordI]
    | cons y ys =>
      simp only [ordI]
      by_cases h1 : x < y
      · have h2 : ¬ y < x := by omega
        simp [h1, h2]
      · by_cases h2 : y < x
        · simp [h1, h2]
        · simp [h1, h2, ih]

theorem ordI_zero (xs ys : List Int) (hl : xs.length = ys.length) : ordI xs ys = 0 ↔ xs = ys := by
  induction xs generalizing ys with
  | nil => cases ys <;> simp [ordI] at hl ⊢
  | cons x xs ih =>
    cases ys with
    | nil => simp at hl
    | cons y ys =>
      simp only [ordI]
      by_cases h1 : x < y
      · simp [h1]; omega
      · by_cases h2 : y < x
        · simp [h1, h2]; omega
        · have : x = y := by omega
          subst this
          simp [ih ys (by simpa using hl)]

theorem ordI_trans (xs ys zs : List Int) (h1 : xs.length = ys.length) (h2 : ys.length = zs.length) (p : ordI xs ys ≤ 0) (q : ordI ys zs ≤ 0) : ordI xs zs ≤ 0 := by
  induction xs generalizing ys zs with
  | nil => simp [ordI]
  | cons x xs ih =>
    match ys, zs, h1, h2 with
    | y :: ys, z :: zs, h1, h2 =>
      simp only [ordI] at p q ⊢
      by_cases a1 : x < y
      · by_cases b1 : y < z
        · have : x < z := by omega
          simp [this]
        · by_cases b2 : z < y
          · simp [b1, b2] at q
          · have : x < z := by omega
            simp [this]
      · by_cases a2 : y < x
        · simp [a1, a2] at p
        · simp only [a1, a2, if_false] at p
          by_cases b1 : y < z
          · have : x < z := by omega
            simp [this]
          · by_cases b2 : z < y
            · simp [b1, b2] at q
            · simp only [b1, b2, if_false] at q
              have c1 : ¬ x < z := by omega
              have c2 : ¬ z < x := by omega
              simp only [c1, c2, if_false]
              exact ih ys zs (by simpa using h1) (by simpa using h2) p q

def rowI (r : Row) : List Int := [r.k, r.t, r.v]
theorem compareI_ord (a b : Row) : compareI a.k a.t a.v b.k b.t b.v = ordI (rowI a) (rowI b) := (rcompareI_eq ..).symm
theorem compareOutI_ord (a b : Out) : compareOutI a b = ordI (outI a) (outI b) := (rcompareOutI_eq ..).symm
theorem rowI_inj {a b : Row} (h : rowI a = rowI b) : a = b := by
  obtain ⟨a1, a2, a3⟩ := a; obtain ⟨b1, b2, b3⟩ := b
  simp only [rowI, List.cons.injEq, and_true] at h
  obtain ⟨rfl, rfl, rfl⟩ := h; rfl
theorem flagI_inj {a b : Bool} (h : flagI a = flagI b) : a = b := by cases a <;> cases b <;> simp [flagI] at h <;> rfl
theorem outI_inj {a b : Out} (h : outI a = outI b) : a = b := by
  obtain ⟨a1, ⟨a2, a3, a4⟩, ⟨a5, a6, a7⟩, a8, a9⟩ := a; obtain ⟨b1, ⟨b2, b3, b4⟩, ⟨b5, b6, b7⟩, b8, b9⟩ := b
  simp only [outI, List.cons.injEq, and_true] at h
  obtain ⟨rfl, h8, rfl, rfl, rfl, h9, rfl, rfl, rfl⟩ := h
  rw [flagI_inj h8, flagI_inj h9]

/-! ### ordered -/
def rowEq (a b : Row) : Bool := decide (a = b)
def outEq (a b : Out) : Bool := decide (a = b)

theorem eql_row (a b : Row) (w : World) : (binOp .eql 56 (.agg #[.int .i64 a.k, .int .i64 a.t, .int .i64 a.v]) (.agg #[.int .i64 b.k, .int .i64 b.t, .int .i64 b.v])).run Tryz.prog w = .ok (.bool (rowEq a b)) w := by
  obtain ⟨a1, a2, a3⟩ := a; obtain ⟨b1, b2, b3⟩ := b
  simp only [rowEq, Row.mk.injEq]
  go_simp
  by_cases h1 : a1 = b1 <;> by_cases h2 : a2 = b2 <;> by_cases h3 : a3 = b3 <;> simp [h1, h2, h3]

theorem eql_out (a b : Out) (w : World) : (binOp .eql 58 (.agg #[.int .i64 a.key, .int .i64 a.l.k, .int .i64 a.l.t, .int .i64 a.l.v, .int .i64 a.r.k, .int .i64 a.r.t, .int .i64 a.r.v, .bool a.hl, .bool a.hr]) (.agg #[.int .i64 b.key, .int .i64 b.l.k, .int .i64 b.l.t, .int .i64 b.l.v, .int .i64 b.r.k, .int .i64 b.r.t, .int .i64 b.r.v, .bool b.hl, .bool b.hr])).run Tryz.prog w = .ok (.bool (outEq a b)) w := by
  obtain ⟨a1, ⟨a2, a3, a4⟩, ⟨a5, a6, a7⟩, a8, a9⟩ := a; obtain ⟨b1, ⟨b2, b3, b4⟩, ⟨b5, b6, b7⟩, b8, b9⟩ := b
  simp only [outEq, Out.mk.injEq, Row.mk.injEq]
  go_simp
  by_cases h1 : a1 = b1
  · by_cases h2 : a2 = b2
    · by_cases h3 : a3 = b3
      · by_cases h4 : a4 = b4
        · by_cases h5 : a5 = b5
          · by_cases h6 : a6 = b6
            · by_cases h7 : a7 = b7
              · by_cases h8 : a8 = b8
                · by_cases h9 : a9 = b9
                  · simp [h1, h2, h3, h4, h5, h6, h7, h8, h9]
                  · simp [h1, h2, h3, h4, h5, h6, h7, h8, h9]
                · simp [h1, h2, h3, h4, h5, h6, h7, h8]
              · simp [h1, h2, h3, h4, h5, h6, h7]
            · simp [h1, h2, h3, h4, h5, h6]
          · simp [h1, h2, h3, h4, h5]
        · simp [h1, h2, h3, h4]
      · simp [h1, h2, h3]
    · simp [h1, h2]
  · simp [h1]

attribute [local go_sem ↓] eql_row eql_out

/-- Which of three ways: p > 0; p ≤ 0 and q > 0; both not, and r ≤ 0. -/
def Ways (p q r : Int) : Prop := 0 < p ∨ (p ≤ 0 ∧ 0 < q) ∨ (p ≤ 0 ∧ q ≤ 0 ∧ r ≤ 0)

def CompareSays (a b : Row) (p : Int) : Prop := ∀ w, Calls Tryz.prog 93 #[.agg #[.int .i64 a.k, .int .i64 a.t, .int .i64 a.v], .agg #[.int .i64 b.k, .int .i64 b.t, .int .i64 b.v]] w fun e w' => e = .returned (.int .i64 p) ∧ Ext w w'
def CompareOutSays (a b : Out) (p : Int) : Prop := ∀ w, Calls Tryz.prog 55 #[.agg #[.int .i64 a.key, .int .i64 a.l.k, .int .i64 a.l.t, .int .i64 a.l.v, .int .i64 a.r.k, .int .i64 a.r.t, .int .i64 a.r.v, .bool a.hl, .bool a.hr], .agg #[.int .i64 b.key, .int .i64 b.l.k, .int .i64 b.l.t, .int .i64 b.l.v, .int .i64 b.r.k, .int .i64 b.r.t, .int .i64 b.r.v, .bool b.hl, .bool b.hr]] w fun e w' => e = .returned (.int .i64 p) ∧ Ext w w'

theorem ways_of {xs ys zs : List Int} (h1 : xs.length = ys.length) (h2 : ys.length = zs.length) : Ways (ordI xs ys) (ordI ys zs) (ordI xs zs) := by
  unfold Ways
  rcases Int.lt_or_le 0 (ordI xs ys) with h | h
  · exact .inl h
  · rcases Int.lt_or_le 0 (ordI ys zs) with k | k
    · exact .inr (.inl ⟨h, k⟩)
    · exact .inr (.inr ⟨h, k, ordI_trans xs ys zs h1 h2 h k⟩)

end Go.Proofs.YtmcgnnmffeojpaaGreatDoor
/- The one order of Outs, sorted lists of them; slices.SortFunc by row.CompareOut. -/
namespace Go.Proofs.YtmcgnnmffeojpaaGreatDoor
open Go.RowKit Go.Plan Go.Sort

theorem outI_len (a : Out) : (outI a).length = 9 := rfl
theorem compareOut_swap (a b : Out) : compareOutI b a = - compareOutI a b := by rw [compareOutI_ord, compareOutI_ord, ordI_swap]
theorem compareOut_trans (a b c : Out) (p : compareOutI a b ≤ 0) (q : compareOutI b c ≤ 0) : compareOutI a c ≤ 0 := by
  rw [compareOutI_ord] at *
  exact ordI_trans (outI a) (outI b) (outI c) rfl rfl p q
theorem compareOut_zero (a b : Out) : compareOutI a b = 0 ↔ a = b := by
  rw [compareOutI_ord, ordI_zero (outI a) (outI b) rfl]
  exact ⟨outI_inj, fun h => by rw [h]⟩

theorem swoOut : SWO (ltOf compareOutI) where
  irrefl x := by unfold ltOf; rw [(compareOut_zero x x).2 rfl]; rfl
  trans x y z h1 h2 := by
    simp only [ltOf, decide_eq_true_eq] at *
    have h3 := compareOut_trans x y z (by omega) (by omega)
    rcases Int.lt_or_eq_of_le h3 with h | h
    · exact h
    · have e := (compareOut_zero x z).1 h
      subst e
      have := compareOut_swap x y
      omega
  ntrans x y z h1 h2 := by
    simp only [ltOf, decide_eq_false_iff_not] at *
    have a := compareOut_swap x y
    have b := compareOut_swap y z
    have c := compareOut_swap x z
    have := compareOut_trans z y x (by omega) (by omega)
    omega
theorem totOut (x y : Out) (h1 : ltOf compareOutI x y = false) (h2 : ltOf compareOutI y x = false) : x = y := by
  simp only [ltOf, decide_eq_false_iff_not] at *
  have a := compareOut_swap x y
  exact (compareOut_zero x y).1 (by omega)

/-- These, in their order. -/
def sortO (l : List Out) : List Out := l.mergeSort fun x y => !(ltOf compareOutI) y x

theorem leO (x y : Out) : (!(ltOf compareOutI) y x) = decide (compareOutI x y ≤ 0) := by
  have := compareOut_swap x y
  unfold ltOf
  by_cases h : compareOutI y x < 0
  · simp [h]; omega
  · simp [h]; omega
theorem sortO_perm (l : List Out) : (sortO l).Perm l := List.mergeSort_perm _ _
theorem sortO_sorted (l : List Out) : (sortO l).Pairwise fun x y => compareOutI x y ≤ 0 := by
  have := List.pairwise_mergeSort (le := fun x y => !(ltOf compareOutI) y x) (fun a b c h1 h2 => by
    rw [leO] at *
    simp only [decide_eq_true_eq] at *
    exact compareOut_trans a b c h1 h2) (fun a b => by
    rw [leO, leO]
    have := compareOut_swap a b
    simp only [Bool.or_eq_true, decide_eq_true_eq]
    omega) l
  exact this.imp (fun h => by rw [leO] at h; simpa using h)
theorem sorted_unique {l l' : List Out} (hp : l.Perm l') (h : l.Pairwise fun x y => compareOutI x y ≤ 0) (h' : l'.Pairwise fun x y => compareOutI x y ≤ 0) : l = l' :=
  hp.eq_of_pairwise (fun a b _ _ h1 h2 => (compareOut_zero a b).1 (by have := compareOut_swap a b; omega)) h h'
theorem sortO_of_perm {l l' : List Out} (hp : l.Perm l') : sortO l = sortO l' :=
  sorted_unique ((sortO_perm l).trans (hp.trans (sortO_perm l').symm)) (sortO_sorted l) (sortO_sorted l')
theorem sortO_length (l : List Out) : (sortO l).length = l.length := (sortO_perm l).length_eq

instance : Inhabited Out := ⟨⟨0, ⟨0, 0, 0⟩, ⟨0, 0, 0⟩, false, false⟩⟩
end Go.Proofs.YtmcgnnmffeojpaaGreatDoor
/-
  DERIVED: THE SHELF's CONTRACTS AT THIS DUMP, IN PLAIN WORDS (tools/lay-plain.mjs out of 'YtmcgnnmffeojpaaGreatDoorLayScratch.lean', which tools/lay-shelf.mjs wrote): THE SAME DECLARATIONS UNDER THE SAME NAMES: 'import', 'namespace', 'open', 'def', 'theorem' AND NOTHING ELSE: no command of the shelf's: FOR A HAND-IN. Each laying: the table of numbers ('.._ren') and one theorem, a field a fact of the dump's own or the kernel's comparison; each contract: ONE APPLICATION.
-/
namespace Go.Proofs
open Go.Shelf
def Tryz.shSortOut_ren : Go.Shelf.Ren := ⟨fun | 6 => 54 | 15 => 71 | 14 => 89 | 28 => 109 | 29 => 110 | 20 => 124 | 21 => 125 | 22 => 126 | 23 => 127 | 24 => 128 | 25 => 129 | 26 => 130 | 27 => 131 | 46 => 154 | 47 => 138 | 48 => 139 | 49 => 155 | 50 => 156 | 57 => 170 | n => n, fun | 22 => 29 | 24 => 58 | 25 => 124 | 3 => 3 | 39 => 89 | 0 => 0 | 53 => 198 | 55 => 200 | 4 => 4 | 46 => 192 | 45 => 191 | 50 => 107 | 5 => 5 | 9 => 9 | 66 => 221 | 70 => 225 | 76 => 246 | 77 => 156 | n => n, fun | n => n⟩
theorem Tryz.shSortOut : Go.Proofs.SlLaysF0.n6 Tryz.prog Tryz.shSortOut_ren := {
  mixed := by kernel_rfl
  f6 := ⟨Tryz.f54.name, by decide, Tryz.func54.trans (congrArg some (by kernel_rfl))⟩
  f14 := ⟨Tryz.f89.name, by decide, Tryz.func89.trans (congrArg some (by kernel_rfl))⟩
  f15 := Tryz.func71.trans (congrArg some (by kernel_rfl))
  f20 := ⟨Tryz.f124.name, by decide, Tryz.func124.trans (congrArg some (by kernel_rfl))⟩
  f21 := ⟨Tryz.f125.name, by decide, Tryz.func125.trans (congrArg some (by kernel_rfl))⟩
  f22 := ⟨Tryz.f126.name, by decide, Tryz.func126.trans (congrArg some (by kernel_rfl))⟩
  f23 := ⟨Tryz.f127.name, by decide, Tryz.func127.trans (congrArg some (by kernel_rfl))⟩
  f24 := ⟨Tryz.f128.name, by decide, Tryz.func128.trans (congrArg some (by kernel_rfl))⟩
  f25 := ⟨Tryz.f129.name, by decide, Tryz.func129.trans (congrArg some (by kernel_rfl))⟩
  f26 := ⟨Tryz.f130.name, by decide, Tryz.func130.trans (congrArg some (by kernel_rfl))⟩
  f27 := ⟨Tryz.f131.name, by decide, Tryz.func131.trans (congrArg some (by kernel_rfl))⟩
  f28 := Tryz.func109.trans (congrArg some (by kernel_rfl))
  f29 := Tryz.func110.trans (congrArg some (by kernel_rfl))
  f46 := ⟨Tryz.f154.name, by decide, Tryz.func154.trans (congrArg some (by kernel_rfl))⟩
  f47 := Tryz.func138.trans (congrArg some (by kernel_rfl))
  f48 := Tryz.func139.trans (congrArg some (by kernel_rfl))
  f49 := ⟨Tryz.f155.name, by decide, Tryz.func155.trans (congrArg some (by kernel_rfl))⟩
  f50 := ⟨Tryz.f156.name, by decide, Tryz.func156.trans (congrArg some (by kernel_rfl))⟩
  f57 := ⟨Tryz.f170.name, by decide, Tryz.func170.trans (congrArg some (by kernel_rfl))⟩
  t0 := Tryz.underlying0
  a0 := Tryz.isAgg0
  z0 := Tryz.sizeOf0
  v0 := Tryz.zeroValue0
  t3 := Tryz.underlying3
  a3 := Tryz.isAgg3
  z3 := Tryz.sizeOf3
  v3 := Tryz.zeroValue3
  t4 := Tryz.underlying4
  a4 := Tryz.isAgg4
  z4 := Tryz.sizeOf4
  v4 := Tryz.zeroValue4
  t5 := Tryz.underlying5
  a5 := Tryz.isAgg5
  z5 := Tryz.sizeOf5
  v5 := Tryz.zeroValue5
  t9 := Tryz.underlying9
  a9 := Tryz.isAgg9
  z9 := Tryz.sizeOf9
  v9 := Tryz.zeroValue9
  t22 := Tryz.underlying29
  a22 := Tryz.isAgg29
  z22 := Tryz.sizeOf29
  v22 := Tryz.zeroValue29
  t25 := Tryz.underlying124
  a25 := Tryz.isAgg124
  z25 := Tryz.sizeOf124
  v25 := Tryz.zeroValue124
  t39 := Tryz.underlying89
  a39 := Tryz.isAgg89
  z39 := Tryz.sizeOf89
  v39 := Tryz.zeroValue89
  t45 := Tryz.underlying191
  a45 := Tryz.isAgg191
  z45 := Tryz.sizeOf191
  v45 := Tryz.zeroValue191
  t46 := Tryz.underlying192
  a46 := Tryz.isAgg192
  z46 := Tryz.sizeOf192
  v46 := Tryz.zeroValue192
  t50 := Tryz.underlying107
  a50 := Tryz.isAgg107
  z50 := Tryz.sizeOf107
  v50 := Tryz.zeroValue107
  t53 := Tryz.underlying198
  a53 := Tryz.isAgg198
  z53 := Tryz.sizeOf198
  v53 := Tryz.zeroValue198
  t55 := Tryz.underlying200
  a55 := Tryz.isAgg200
  z55 := Tryz.sizeOf200
  v55 := Tryz.zeroValue200
  t66 := Tryz.underlying221
  a66 := Tryz.isAgg221
  z66 := Tryz.sizeOf221
  v66 := Tryz.zeroValue221
  t70 := Tryz.underlying225
  a70 := Tryz.isAgg225
  z70 := Tryz.sizeOf225
  v70 := Tryz.zeroValue225
  t76 := Tryz.underlying246
  a76 := Tryz.isAgg246
  z76 := Tryz.sizeOf246
  v76 := Tryz.zeroValue246
  t77 := Tryz.underlying156
  a77 := Tryz.isAgg156
  z77 := Tryz.sizeOf156
  v77 := Tryz.zeroValue156 }
end Go.Proofs
namespace Go.Proofs.YtmcgnnmffeojpaaGreatDoor
open Go.RowKit Go.Plan Go.Sort Go.Shelf Go.Lib

theorem outCells_len (x : Out) : x.cells.length = 9 := rfl
theorem outCells_one (x : Out) : ∀ v ∈ x.cells, v.oneCell' = true := by
  intro v hv
  simp only [Out.cells, List.mem_cons, List.not_mem_nil, or_false] at hv
  rcases hv with rfl | rfl | rfl | rfl | rfl | rfl | rfl | rfl | rfl <;> rfl

theorem outsCells_len (l : List Out) : (l.flatMap Out.cells).length = l.length * 9 := by
  induction l with
  | nil => rfl
  | cons x r ih => rw [List.flatMap_cons, List.length_append, ih, outCells_len, List.length_cons]; omega
theorem outsCells_get (l : List Out) (i c : Nat) (hi : i < l.length) (hc : c < 9) : (l.flatMap Out.cells)[i * 9 + c]? = (l[i]'hi).cells[c]? := by
  induction l generalizing i with
  | nil => simp at hi
  | cons x r ih =>
    rw [List.flatMap_cons]
    cases i with
    | zero => rw [List.getElem?_append_left (by rw [outCells_len]; omega)]; simp
    | succ i =>
      rw [List.getElem?_append_right (by rw [outCells_len]; omega), outCells_len]
      have := ih i (by simpa using hi)
      rw [show (i + 1) * 9 + c - 9 = i * 9 + c by omega, this]
      simp

/-- The cells at ⟨b, off⟩ hold these Outs, one behind the other. -/
def OutsAt (w : World) (b off : Nat) (l : List Out) : Prop := HoldsK Out.cells 9 w b off l.toArray

theorem OutsAt.cell {w : World} {b off : Nat} {l : List Out} (h : OutsAt w b off l) (i c : Nat) (hi : i < l.length) (hc : c < 9) :
    w.cell? ⟨b, off + i * 9 + c, none⟩ = (l[i]'hi).cells[c]? ∧ w.frozen? ⟨b, off + i * 9 + c, none⟩ = false := by
  have := HoldsK.cell h (i := i) (c := c) (by simpa using hi) hc
  refine ⟨this.1.trans ?_, this.2⟩
  have e : l.toArray[i]! = l[i]'hi := by simp [hi]
  rw [e, List.getElem!_eq_getElem?_getD, List.getElem?_eq_getElem (by rw [outCells_len]; exact hc)]
  rfl

theorem flatK_outs (l : List Out) : (flatK Out.cells 9 l.toArray).toList = l.flatMap Out.cells := by
  apply List.ext_getElem?
  intro j
  by_cases hj : j < l.length * 9
  · have hd : j / 9 < l.length := by omega
    have e1 := outsCells_get l (j / 9) (j % 9) hd (by omega)
    rw [show j / 9 * 9 + j % 9 = j by omega] at e1
    rw [e1]
    have hs : j < (flatK Out.cells 9 l.toArray).size := by simpa using hj
    have e2 := get_flatK Out.cells 9 l.toArray j (by simpa using hj)
    rw [Array.getElem?_toList, Array.getElem?_eq_getElem hs]
    rw [getElem!_pos _ j hs] at e2
    rw [e2]
    have e : l.toArray[j / 9]! = l[j / 9]'hd := by simp [hd]
    rw [e, List.getElem!_eq_getElem?_getD, List.getElem?_eq_getElem (by rw [outCells_len]; omega)]
    rfl
  · rw [List.getElem?_eq_none (by simp; omega), List.getElem?_eq_none (by rw [outsCells_len]; omega)]

theorem OutsAt.of_own {w : World} {base : Nat} {e : TypeId} {b cap n : Nat} {l : List Out} (h : w.ownsRow base e 9 (.slice (some ⟨b, 0, none⟩) n cap) n (l.flatMap Out.cells)) : OutsAt w b 0 l := by
  obtain ⟨hl, hr⟩ := h
  rcases hr with ⟨h, -⟩ | ⟨g, cap', cur, hv, hbase, hb, h1, h2, h3, h4⟩
  · cases h
  · simp only [Value.slice.injEq, Option.some.injEq, Addr.mk.injEq, and_true, true_and] at hv
    obtain ⟨rfl, rfl⟩ := hv
    intro j hj
    have hj' : j < l.length * 9 := by simpa using hj
    refine ⟨?_, by simp [World.frozen?, hb]⟩
    rw [outsCells_len] at hl
    have e1 : (cur.toList.take (n * 9))[j]? = (flatK Out.cells 9 l.toArray).toList[j]? := by rw [h4, flatK_outs]
    rw [List.getElem?_take_of_lt (by omega), Array.getElem?_toList, Array.getElem?_toList] at e1
    simp only [World.cell?, hb, Nat.zero_add]
    have hs : j < (flatK Out.cells 9 l.toArray).size := hj
    rw [e1, getElem!_pos _ j hs, Array.getElem?_eq_getElem hs]
    rfl

theorem OutsAt.keep {w w' : World} {b off : Nat} {l : List Out} (h : OutsAt w b off l) (hb : w'.heap[b]? = w.heap[b]?) : OutsAt w' b off l := by
  intro j hj
  obtain ⟨h1, h2⟩ := h j hj
  exact ⟨(World.cell?_of_block (w := w) (w' := w') (a := ⟨b, off + j, none⟩) hb).trans h1, (World.frozen?_of_block (w := w) (w' := w') (a := ⟨b, off + j, none⟩) hb).trans h2⟩

theorem sortWorldK_ext {w : World} {b n : Nat} {d : Array Out} {os : Array Obj} : ExtM (fun k => k = b) w (sortWorldK Out.cells 9 w b 0 n d os) := by
  refine ⟨rfl, rfl, rfl, by simp [sortWorldK, putRowK], fun k hk hne => ?_⟩
  unfold sortWorldK putRowK
  rw [heap_grow_old _ _ (by simpa using hk)]
  have : b ≠ k := fun e => hne e.symm
  simp [putRow, mapBlock, Sort.ahead, Array.getElem?_modify, this]

theorem isAggOut (w : World) : (isAgg 58).run Tryz.prog w = .ok true w := by kernel_rfl
theorem sizeOfOut (w : World) : (Go.sizeOf 58).run Tryz.prog w = .ok 9 w := by kernel_rfl

theorem sortOut_c (b cap : Nat) (l : List Out) (w : World) (hH : OutsAt w b 0 l) (hb : b < w.heap.size) (hsz : l.length < 4611686018427387904) :
    Calls Tryz.prog 54 #[.slice (some ⟨b, 0, none⟩) l.length cap, .func (.func 55) #[] #[]] w fun e w' =>
      e = .returned (.tuple #[]) ∧ ExtM (fun k => k = b) w w' ∧ OutsAt w' b 0 (sortO l) := by
  have eg : ∀ args w, (callFunc 55 args).run Tryz.prog w = .ok (.enter 55 args) w := enters_of Tryz.func55 (by kernel_rfl) rfl
  have hcmp : CmpLays Tryz.prog 55 #[] Out.cells 9 compareOutI b 0 l.toArray.size w := fun _ _ _ _ x y => compareOut_g x y _
  have hcon := AnyQ.slices_SortFunc_total Tryz.shSortOut 9 isAggOut sizeOfOut Out.cells outCells_len outCells_one compareOutI swoOut 55 #[] b 0 cap l.toArray w eg hcmp hH hb (by simpa using hsz) totOut
  have e1 : l.toArray.size = l.length := by simp
  rw [e1] at hcon
  refine hcon.mono fun e w' hh => ?_
  obtain ⟨he, n, os, hw⟩ := hh
  have e2 : (l.toArray.toList.mergeSort fun x y => !(ltOf compareOutI) y x).toArray = (sortO l).toArray := rfl
  rw [e2] at hw
  subst hw
  exact ⟨he, sortWorldK_ext, holdsK_sortWorldK_c Out.cells 9 w b 0 l.toArray (sortO l).toArray n os hH hb (by simp [sortO_length])⟩
theorem sortOut0_c (p : Option Addr) (cap : Nat) (w : World) :
    Calls Tryz.prog 54 #[.slice p 0 cap, .func (.func 55) #[] #[]] w fun e w' => e = .returned (.tuple #[]) ∧ w = w' :=
  (AnyF.slices_SortFunc_none (P := Tryz.prog) (ρ := Tryz.shSortOut_ren) Tryz.shSortOut p cap (.func (.func 55) #[] #[]) w).mono fun _ _ h => ⟨h.1, h.2.symm⟩
end Go.Proofs.YtmcgnnmffeojpaaGreatDoor
