/- The law RowOuts (1.1): its walk. -/
import Derived.Test.YtggjceolhbdalaaDoorRowLaws
import Derived.Test.YtggjceolhbdalaaDoorSliceArgs
namespace Go.Proofs.YtggjceolhbdalaaDoor
open Go.RowKit Go.Plan

theorem rcompareOut_c' (a b : Out) (w : World) :
    Calls Tryd.prog 47 #[.agg #[.int .i64 a.key, .int .i64 a.l.k, .int .i64 a.l.t, .int .i64 a.l.v, .int .i64 a.r.k, .int .i64 a.r.t, .int .i64 a.r.v, .bool a.hl, .bool a.hr], .agg #[.int .i64 b.key, .int .i64 b.l.k, .int .i64 b.l.t, .int .i64 b.l.v, .int .i64 b.r.k, .int .i64 b.r.t, .int .i64 b.r.v, .bool b.hl, .bool b.hr]] w fun e w' =>
      e = .returned (.int .i64 (compareOutI a b)) ∧ Ext w w' := by
  rw [← rcompareOutI_eq]; exact rcompareOut_c a b w

/-- The value of Lone, whichever the side, as the walk meets it. -/
def loneC (s k t v : Int) : Array Value := if s = 0 then #[.int .i64 k, .int .i64 k, .int .i64 t, .int .i64 v, .int .i64 0, .int .i64 0, .int .i64 0, .bool true, .bool false] else #[.int .i64 k, .int .i64 0, .int .i64 0, .int .i64 0, .int .i64 k, .int .i64 t, .int .i64 v, .bool false, .bool true]

/-- Whichever of the two the answer is. -/
def Bi (g : Bool) (w : World) (e : Ending) (w' : World) : Prop := e = .returned (.bool g) ∧ Ext w w'

structure PlanR where
  lo : Int
  hi : Int
  mo : Int
def PlanR.ok (p : PlanR) : Prop := I64 p.lo ∧ I64 p.hi ∧ I64 p.mo

open Go.ChangeShapes Go.WideShapes Go.ChangeAt Go.Joins Go.Deep in
set_option maxRecDepth 100000 in
theorem plan_arg {H : Type} {enc : TypeId × Value → H} {w : World} {base : Nat} {spare : Nat → Bool} {held : Bool} {r : Reach} {b0 : Nat} {v : Value} {d : DataW H} {p : List MemPlace} (hv : Value.okWide Tryd.prog w r b0 80 v) (h : DataW.Trod enc Tryd.prog w base spare held 80 v d p) :
    ∃ q : PlanR, v = .agg #[.int .i64 q.lo, .int .i64 q.hi, .int .i64 q.mo] ∧ q.ok := by
  obtain ⟨cs, rfl, hsz⟩ := okWide_struct Tryd.underlying80 hv
  obtain ⟨fuel, hf⟩ := h
  obtain ⟨y0, y1, y2, n, -, hl, h0, h1, h2⟩ := trod_struct3 Tryd.underlying80 hf
  obtain ⟨l⟩ := cs
  have cellsPlan : Tryd.prog.cellsOf 80 = 3 := by kernel_rfl
  rw [cellsPlan] at hl
  simp only [Value.cells] at hl h0 h1 h2
  match l, hl with
  | [c0, c1, c2], _ =>
    obtain ⟨a, rfl, wa⟩ := int_cell (c := c0) (by simpa [cellsInt] using h0)
    obtain ⟨b, rfl, wb⟩ := int_cell (c := c1) (by simpa [cellsInt] using h1)
    obtain ⟨c, rfl, wc⟩ := int_cell (c := c2) (by simpa [cellsInt] using h2)
    exact ⟨⟨a, b, c⟩, rfl, wa, wb, wc⟩
end Go.Proofs.YtggjceolhbdalaaDoor
