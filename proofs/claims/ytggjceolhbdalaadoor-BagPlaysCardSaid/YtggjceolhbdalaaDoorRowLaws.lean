/- The laws of row (1.1): the walks of RowOrder, RowOuts, RowTotal. -/
import Derived.Test.YtggjceolhbdalaaDoorRow2
namespace Go.Proofs.YtggjceolhbdalaaDoor
open Go.RowKit Go.Plan

theorem cmpI_or (a b : Int) (r : Int) : (if cmpI a b = 0 then r else cmpI a b) = if a < b then -1 else if b < a then 1 else r := by
  unfold cmpI
  split
  · split <;> simp_all
  · split
    · simp_all
    · simp_all

theorem rcompareI_eq (k1 t1 v1 k2 t2 v2 : Int) : rcompareI k1 t1 v1 k2 t2 v2 = compareI k1 t1 v1 k2 t2 v2 := by
  simp only [rcompareI, compareI, ordI, orI, cmpI_or]

theorem compareI_or (k1 t1 v1 k2 t2 v2 : Int) (r : Int) : (if compareI k1 t1 v1 k2 t2 v2 = 0 then r else compareI k1 t1 v1 k2 t2 v2) = (if k1 < k2 then -1 else if k2 < k1 then 1 else if t1 < t2 then -1 else if t2 < t1 then 1 else if v1 < v2 then -1 else if v2 < v1 then 1 else r) := by
  simp only [compareI, orI, cmpI_or]
  by_cases h1 : k1 < k2 <;> by_cases h2 : k2 < k1 <;> by_cases h3 : t1 < t2 <;> by_cases h4 : t2 < t1 <;> by_cases h5 : v1 < v2 <;> by_cases h6 : v2 < v1 <;> simp [h1, h2, h3, h4, h5, h6]

theorem rcompareOutI_eq (a b : Out) : rcompareOutI a b = compareOutI a b := by
  simp only [rcompareOutI, compareOutI, outI, ordI, orI, cmpI_or, compareI_or]

end Go.Proofs.YtggjceolhbdalaaDoor
