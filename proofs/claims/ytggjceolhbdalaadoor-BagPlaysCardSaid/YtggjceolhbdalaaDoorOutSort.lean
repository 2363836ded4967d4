/- Rows of Outs in memory; slices.SortFunc of them by row.CompareOut. -/
import Derived.Test.YtggjceolhbdalaaDoorOutOrd
import Derived.Test.YtggjceolhbdalaaDoorShSort
import Derived.Laws.AppendOwn
namespace Go.Proofs.YtggjceolhbdalaaDoor
open Go.RowKit Go.Plan Go.Sort Go.Shelf Go.Lib

theorem outCells_len (x : Out) : x.cells.length = 9 := rfl
theorem outCells_one (x : Out) : ∀ v ∈ x.cells, v.oneCell' = true := by
  intro v hv
  simp only [Out.cells, List.mem_cons, List.not_mem_nil, or_false] at hv
  rcases hv with rfl | rfl | rfl | rfl | rfl | rfl | rfl | rfl | rfl <;> rfl

theorem outsCells_len (l : List Out) : (l.flatMap Out.cells).length = l.length * 9 := by
  induction l with
  | nil => rfl
  | cons x r ih => rw [List.flatMap_cons, List.length_append, ih, outCells_len, List.length_cons]; omega
theorem outsCells_get (l : List Out) (i c : Nat) (hi : i < l.length) (hc : c < 9) : (l.flatMap Out.cells)[i * 9 + c]? = (l[i]'hi).cells[c]? := by
  induction l generalizing i with
  | nil => simp at hi
  | cons x r ih =>
    rw [List.flatMap_cons]
    cases i with
    | zero => rw [List.getElem?_append_left (by rw [outCells_len]; omega)]; simp
    | succ i =>
      rw [List.getElem?_append_right (by rw [outCells_len]; omega), outCells_len]
      have := ih i (by simpa using hi)
      rw [show (i + 1) * 9 + c - 9 = i * 9 + c by omega, this]
      simp

/-- The cells at ⟨b, off⟩ hold these Outs, one behind the other. -/
def OutsAt (w : World) (b off : Nat) (l : List Out) : Prop := HoldsK Out.cells 9 w b off l.toArray

theorem OutsAt.cell {w : World} {b off : Nat} {l : List Out} (h : OutsAt w b off l) (i c : Nat) (hi : i < l.length) (hc : c < 9) :
    w.cell? ⟨b, off + i * 9 + c, none⟩ = (l[i]'hi).cells[c]? ∧ w.frozen? ⟨b, off + i * 9 + c, none⟩ = false := by
  have := HoldsK.cell h (i := i) (c := c) (by simpa using hi) hc
  refine ⟨this.1.trans ?_, this.2⟩
  have e : l.toArray[i]! = l[i]'hi := by simp [hi]
  rw [e, List.getElem!_eq_getElem?_getD, List.getElem?_eq_getElem (by rw [outCells_len]; exact hc)]
  rfl

theorem flatK_outs (l : List Out) : (flatK Out.cells 9 l.toArray).toList = l.flatMap Out.cells := by
  apply List.ext_getElem?
  intro j
  by_cases hj : j < l.length * 9
  · have hd : j / 9 < l.length := by omega
    have e1 := outsCells_get l (j / 9) (j % 9) hd (by omega)
    rw [show j / 9 * 9 + j % 9 = j by omega] at e1
    rw [e1]
    have hs : j < (flatK Out.cells 9 l.toArray).size := by simpa using hj
    have e2 := get_flatK Out.cells 9 l.toArray j (by simpa using hj)
    rw [Array.getElem?_toList, Array.getElem?_eq_getElem hs]
    rw [getElem!_pos _ j hs] at e2
    rw [e2]
    have e : l.toArray[j / 9]! = l[j / 9]'hd := by simp [hd]
    rw [e, List.getElem!_eq_getElem?_getD, List.getElem?_eq_getElem (by rw [outCells_len]; omega)]
    rfl
  · rw [List.getElem?_eq_none (by simp; omega), List.getElem?_eq_none (by rw [outsCells_len]; omega)]

theorem OutsAt.of_own {w : World} {base : Nat} {e : TypeId} {b cap n : Nat} {l : List Out} (h : w.ownsRow base e 9 (.slice (some ⟨b, 0, none⟩) n cap) n (l.flatMap Out.cells)) : OutsAt w b 0 l := by
  obtain ⟨hl, hr⟩ := h
  rcases hr with ⟨h, -⟩ | ⟨g, cap', cur, hv, hbase, hb, h1, h2, h3, h4⟩
  · cases h
  · simp only [Value.slice.injEq, Option.some.injEq, Addr.mk.injEq, and_true, true_and] at hv
    obtain ⟨rfl, rfl⟩ := hv
    intro j hj
    have hj' : j < l.length * 9 := by simpa using hj
    refine ⟨?_, by simp [World.frozen?, hb]⟩
    rw [outsCells_len] at hl
    have e1 : (cur.toList.take (n * 9))[j]? = (flatK Out.cells 9 l.toArray).toList[j]? := by rw [h4, flatK_outs]
    rw [List.getElem?_take_of_lt (by omega), Array.getElem?_toList, Array.getElem?_toList] at e1
    simp only [World.cell?, hb, Nat.zero_add]
    have hs : j < (flatK Out.cells 9 l.toArray).size := hj
    rw [e1, getElem!_pos _ j hs, Array.getElem?_eq_getElem hs]
    rfl

theorem OutsAt.keep {w w' : World} {b off : Nat} {l : List Out} (h : OutsAt w b off l) (hb : w'.heap[b]? = w.heap[b]?) : OutsAt w' b off l := by
  intro j hj
  obtain ⟨h1, h2⟩ := h j hj
  exact ⟨(World.cell?_of_block (w := w) (w' := w') (a := ⟨b, off + j, none⟩) hb).trans h1, (World.frozen?_of_block (w := w) (w' := w') (a := ⟨b, off + j, none⟩) hb).trans h2⟩

theorem sortWorldK_ext {w : World} {b n : Nat} {d : Array Out} {os : Array Obj} : ExtM (fun k => k = b) w (sortWorldK Out.cells 9 w b 0 n d os) := by
  refine ⟨rfl, rfl, rfl, by simp [sortWorldK, putRowK], fun k hk hne => ?_⟩
  unfold sortWorldK putRowK
  rw [heap_grow_old _ _ (by simpa using hk)]
  have : b ≠ k := fun e => hne e.symm
  simp [putRow, mapBlock, Sort.ahead, Array.getElem?_modify, this]

theorem isAggOut (w : World) : (isAgg 45).run Tryd.prog w = .ok true w := by kernel_rfl
theorem sizeOfOut (w : World) : (Go.sizeOf 45).run Tryd.prog w = .ok 9 w := by kernel_rfl

theorem sortOut_c (b cap : Nat) (l : List Out) (w : World) (hH : OutsAt w b 0 l) (hb : b < w.heap.size) (hsz : l.length < 4611686018427387904) :
    Calls Tryd.prog 43 #[.slice (some ⟨b, 0, none⟩) l.length cap, .func (.func 44) #[] #[]] w fun e w' =>
      e = .returned (.tuple #[]) ∧ ExtM (fun k => k = b) w w' ∧ OutsAt w' b 0 (sortO l) := by
  have eg : ∀ args w, (callFunc 44 args).run Tryd.prog w = .ok (.enter 44 args) w := enters_of Tryd.func44 (by kernel_rfl) rfl
  have hcmp : CmpLays Tryd.prog 44 #[] Out.cells 9 compareOutI b 0 l.toArray.size w := fun _ _ _ _ x y => compareOut_g x y _
  have hcon := AnyQ.slices_SortFunc_total Tryd.shSortOut 9 isAggOut sizeOfOut Out.cells outCells_len outCells_one compareOutI swoOut 44 #[] b 0 cap l.toArray w eg hcmp hH hb (by simpa using hsz) totOut
  have e1 : l.toArray.size = l.length := by simp
  rw [e1] at hcon
  refine hcon.mono fun e w' hh => ?_
  obtain ⟨he, n, os, hw⟩ := hh
  have e2 : (l.toArray.toList.mergeSort fun x y => !(ltOf compareOutI) y x).toArray = (sortO l).toArray := rfl
  rw [e2] at hw
  subst hw
  exact ⟨he, sortWorldK_ext, holdsK_sortWorldK_c Out.cells 9 w b 0 l.toArray (sortO l).toArray n os hH hb (by simp [sortO_length])⟩
theorem sortOut0_c (p : Option Addr) (cap : Nat) (w : World) :
    Calls Tryd.prog 43 #[.slice p 0 cap, .func (.func 44) #[] #[]] w fun e w' => e = .returned (.tuple #[]) ∧ w = w' :=
  (AnyF.slices_SortFunc_none (P := Tryd.prog) (ρ := Tryd.shSortOut_ren) Tryd.shSortOut p cap (.func (.func 44) #[] #[]) w).mono fun _ _ h => ⟨h.1, h.2.symm⟩
end Go.Proofs.YtggjceolhbdalaaDoor
