/- The one order of Outs, sorted lists of them; slices.SortFunc by row.CompareOut. -/
import Derived.Test.YtggjceolhbdalaaDoorRowTotal
import Derived.Test.YtggjceolhbdalaaDoorPlanG
import Derived.Test.YtggjceolhbdalaaDoorOutKey
import Derived.Shelf.SlSortCmp.NoneTotal
import Derived.Shelf.Lay
import Derived.Ground.SlsfProg
namespace Go.Proofs.YtggjceolhbdalaaDoor
open Go.RowKit Go.Plan Go.Sort

theorem outI_len (a : Out) : (outI a).length = 9 := rfl
theorem compareOut_swap (a b : Out) : compareOutI b a = - compareOutI a b := by rw [compareOutI_ord, compareOutI_ord, ordI_swap]
theorem compareOut_trans (a b c : Out) (p : compareOutI a b ≤ 0) (q : compareOutI b c ≤ 0) : compareOutI a c ≤ 0 := by
  rw [compareOutI_ord] at *
  exact ordI_trans (outI a) (outI b) (outI c) rfl rfl p q
theorem compareOut_zero (a b : Out) : compareOutI a b = 0 ↔ a = b := by
  rw [compareOutI_ord, ordI_zero (outI a) (outI b) rfl]
  exact ⟨outI_inj, fun h => by rw [h]⟩

theorem swoOut : SWO (ltOf compareOutI) where
  irrefl x := by unfold ltOf; rw [(compareOut_zero x x).2 rfl]; rfl
  trans x y z h1 h2 := by
    simp only [ltOf, decide_eq_true_eq] at *
    have h3 := compareOut_trans x y z (by omega) (by omega)
    rcases Int.lt_or_eq_of_le h3 with h | h
    · exact h
    · have e := (compareOut_zero x z).1 h
      subst e
      have := compareOut_swap x y
      omega
  ntrans x y z h1 h2 := by
    simp only [ltOf, decide_eq_false_iff_not] at *
    have a := compareOut_swap x y
    have b := compareOut_swap y z
    have c := compareOut_swap x z
    have := compareOut_trans z y x (by omega) (by omega)
    omega
theorem totOut (x y : Out) (h1 : ltOf compareOutI x y = false) (h2 : ltOf compareOutI y x = false) : x = y := by
  simp only [ltOf, decide_eq_false_iff_not] at *
  have a := compareOut_swap x y
  exact (compareOut_zero x y).1 (by omega)

/-- These, in their order. -/
def sortO (l : List Out) : List Out := l.mergeSort fun x y => !(ltOf compareOutI) y x

theorem leO (x y : Out) : (!(ltOf compareOutI) y x) = decide (compareOutI x y ≤ 0) := by
  have := compareOut_swap x y
  unfold ltOf
  by_cases h : compareOutI y x < 0
  · simp [h]; omega
  · simp [h]; omega
theorem sortO_perm (l : List Out) : (sortO l).Perm l := List.mergeSort_perm _ _
theorem sortO_sorted (l : List Out) : (sortO l).Pairwise fun x y => compareOutI x y ≤ 0 := by
  have := List.pairwise_mergeSort (le := fun x y => !(ltOf compareOutI) y x) (fun a b c h1 h2 => by
    rw [leO] at *
    simp only [decide_eq_true_eq] at *
    exact compareOut_trans a b c h1 h2) (fun a b => by
    rw [leO, leO]
    have := compareOut_swap a b
    simp only [Bool.or_eq_true, decide_eq_true_eq]
    omega) l
  exact this.imp (fun h => by rw [leO] at h; simpa using h)
theorem sorted_unique {l l' : List Out} (hp : l.Perm l') (h : l.Pairwise fun x y => compareOutI x y ≤ 0) (h' : l'.Pairwise fun x y => compareOutI x y ≤ 0) : l = l' :=
  hp.eq_of_pairwise (fun a b _ _ h1 h2 => (compareOut_zero a b).1 (by have := compareOut_swap a b; omega)) h h'
theorem sortO_of_perm {l l' : List Out} (hp : l.Perm l') : sortO l = sortO l' :=
  sorted_unique ((sortO_perm l).trans (hp.trans (sortO_perm l').symm)) (sortO_sorted l) (sortO_sorted l')
theorem sortO_length (l : List Out) : (sortO l).length = l.length := (sortO_perm l).length_eq

instance : Inhabited Out := ⟨⟨0, ⟨0, 0, 0⟩, ⟨0, 0, 0⟩, false, false⟩⟩
end Go.Proofs.YtggjceolhbdalaaDoor
