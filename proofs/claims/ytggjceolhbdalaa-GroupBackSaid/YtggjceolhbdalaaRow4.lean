/- What the functions of the packages row and estuaryref (1.1) compute: contracts of each, the last part. -/
import Derived.Test.YtggjceolhbdalaaRow3
namespace Go.Proofs.Ytggjceolhbdalaa
open Go.RowKit Go.Plan

def rcompareOutI (a b : Out) : Int := ordI (outI a) (outI b)

def inB (n : Int) : Bool := decide (-1099511627776 ≤ n ∧ n ≤ 1099511627776)

def goodB (k t v : Int) : Bool := inB k && inB t && inB v

def loneO (s : Int) (r : Row) : Out := if s = 0 then ⟨r.k, r, ⟨0, 0, 0⟩, true, false⟩ else ⟨r.k, ⟨0, 0, 0⟩, r, false, true⟩

theorem lone_c (s k t v : Int) (w : World) :
    Calls Try.prog 13 #[.int .i64 s, .agg #[.int .i64 k, .int .i64 t, .int .i64 v]] w fun e w' =>
      e = .returned (if s = 0 then .agg #[.int .i64 k, .int .i64 k, .int .i64 t, .int .i64 v, .int .i64 0, .int .i64 0, .int .i64 0, .bool true, .bool false] else .agg #[.int .i64 k, .int .i64 0, .int .i64 0, .int .i64 0, .int .i64 k, .int .i64 t, .int .i64 v, .bool false, .bool true]) ∧ Ext w w' := by
  by_cases hs : s = 0
  · rw [if_pos hs]
    subst hs
    go_enter Try.func13, Try.ntmps13
    go_wp2
    refine bodyPost_ret (v := .agg #[.int .i64 k, .int .i64 k, .int .i64 t, .int .i64 v, .int .i64 0, .int .i64 0, .int .i64 0, .bool true, .bool false]) (by simp [results, Try.results13, go_sem]) rfl ⟨rfl, ?_⟩
    exact ((ExtM.refl _).alloc _).alloc _
  · rw [if_neg hs]
    have hs' : (s == 0) = false := by simpa using hs
    go_enter Try.func13, Try.ntmps13
    go_wp2
    refine bodyPost_ret (v := .agg #[.int .i64 k, .int .i64 0, .int .i64 0, .int .i64 0, .int .i64 k, .int .i64 t, .int .i64 v, .bool false, .bool true]) (by simp [results, Try.results13, go_sem]) rfl ⟨rfl, ?_⟩
    exact ((ExtM.refl _).alloc _).alloc _

def meetsB (lo hi lk lt rk rt : Int) : Bool := decide (lk = rk) && (decide (lo ≤ wrap64 (rt - lt)) && decide (wrap64 (rt - lt) ≤ hi))

end Go.Proofs.Ytggjceolhbdalaa
