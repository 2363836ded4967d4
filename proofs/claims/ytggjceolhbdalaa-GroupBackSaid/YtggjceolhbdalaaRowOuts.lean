/- The law RowOuts (1.1): its walk. -/
import Derived.Test.YtggjceolhbdalaaRowLaws
import Derived.Test.YtggjceolhbdalaaShapes
namespace Go.Proofs.Ytggjceolhbdalaa
open Go.RowKit Go.Plan

theorem lone0_c (k t v : Int) (w : World) :
    Calls Try.prog 13 #[.int .i64 0, .agg #[.int .i64 k, .int .i64 t, .int .i64 v]] w fun e w' =>
      e = .returned (.agg #[.int .i64 k, .int .i64 k, .int .i64 t, .int .i64 v, .int .i64 0, .int .i64 0, .int .i64 0, .bool true, .bool false]) ∧ Ext w w' := by
  have := lone_c 0 k t v w; rwa [if_pos rfl] at this
theorem lone1_c (s k t v : Int) (w : World) (hs : s ≠ 0) :
    Calls Try.prog 13 #[.int .i64 s, .agg #[.int .i64 k, .int .i64 t, .int .i64 v]] w fun e w' =>
      e = .returned (.agg #[.int .i64 k, .int .i64 0, .int .i64 0, .int .i64 0, .int .i64 k, .int .i64 t, .int .i64 v, .bool false, .bool true]) ∧ Ext w w' := by
  have := lone_c s k t v w; rwa [if_neg hs] at this
/-- The value of Lone, whichever the side, as the walk meets it. -/
def loneC (s k t v : Int) : Array Value := if s = 0 then #[.int .i64 k, .int .i64 k, .int .i64 t, .int .i64 v, .int .i64 0, .int .i64 0, .int .i64 0, .bool true, .bool false] else #[.int .i64 k, .int .i64 0, .int .i64 0, .int .i64 0, .int .i64 k, .int .i64 t, .int .i64 v, .bool false, .bool true]

/-- Whichever of the two the answer is. -/
def Bi (g : Bool) (w : World) (e : Ending) (w' : World) : Prop := e = .returned (.bool g) ∧ Ext w w'

structure PlanR where
  lo : Int
  hi : Int
  mo : Int
def PlanR.ok (p : PlanR) : Prop := I64 p.lo ∧ I64 p.hi ∧ I64 p.mo

end Go.Proofs.Ytggjceolhbdalaa
