/- Slices of changes as they come in. -/
import Derived.Test.YtggjceolhbdalaaDoorSliceArgs
import Derived.Test.YtggjceolhbdalaaDoorElemC
namespace Go.Proofs.YtggjceolhbdalaaDoor
open Go.ChangeShapes Go.WideShapes Go.ChangeAt Go.RowKit Go.Joins Go.Plan Go.Deep

theorem cellsChange : Tryd.prog.cellsOf 47 = 10 := by kernel_rfl

set_option maxRecDepth 100000 in
theorem change_cells {H : Type} {enc : TypeId × Value → H} {w : World} {base : Nat} {spare : Nat → Bool} {held : Bool} {fuel : Nat} {cs : List Value} {x : DataW H × List MemPlace} (h : DataW.trod enc Tryd.prog w base spare held fuel 47 cs = some x) :
    ∃ (o : Out) (g : Bool), cs = o.cells ++ [.bool g] ∧ o.ok := by
  obtain ⟨xs, n, _, -, hl, hlen, hf⟩ := DataW.trod_struct Tryd.underlying47 h
  rw [cellsChange] at hl
  match cs, hl, xs, hlen with
  | [c0, c1, c2, c3, c4, c5, c6, c7, c8, c9], _, [y0, y1], _ =>
    obtain ⟨o, e1, ho⟩ := out_cells (cs := [c0, c1, c2, c3, c4, c5, c6, c7, c8]) (by simpa [cellsOut] using hf 0 _ rfl)
    obtain ⟨b, rfl⟩ := bool_cell (c := c9) (by simpa [cellsBool] using hf 1 _ rfl)
    exact ⟨o, b, by rw [← e1]; rfl, ho⟩

set_option maxRecDepth 100000 in
theorem changes_arg {H : Type} {enc : TypeId × Value → H} {w : World} {base : Nat} {spare : Nat → Bool} {held : Bool} {r : Reach} {b0 : Nat} {v : Value} {d : DataW H} {p : List MemPlace}
    (hv : Value.okWide Tryd.prog w r b0 37 v) (h : DataW.Trod enc Tryd.prog w base spare held 37 v d p) :
    ∃ (a : Option Addr) (cap : Nat) (xs : List (Out × Bool)), v = .slice a xs.length cap ∧ ChangesIn w a xs ∧ (∀ x ∈ xs, x.1.ok) := by
  obtain ⟨a, len, cap, rfl, -, -, h0⟩ := slice_arg 10 (by omega) Tryd.underlying37 cellsChange hv h
  rcases h0 with rfl | ⟨b, off, rfl, hc⟩
  · exact ⟨a, cap, [], rfl, .inl rfl, by simp⟩
  have hc' : ∀ k, k < len → ∃ x : Out × Bool, x.1.ok ∧ ElemC w b (off + k * 10) x.1 x.2 := fun k hk => by
    obtain ⟨cs, n, y, hl, hcell, ht⟩ := hc k hk
    obtain ⟨x, g, rfl, hx⟩ := change_cells ht
    exact ⟨(x, g), hx, ⟨hcell 0 (by omega), hcell 1 (by omega), hcell 2 (by omega), hcell 3 (by omega), hcell 4 (by omega), hcell 5 (by omega), hcell 6 (by omega), hcell 7 (by omega), hcell 8 (by omega), hcell 9 (by omega)⟩⟩
  have : Inhabited (Out × Bool) := ⟨(⟨0, ⟨0, 0, 0⟩, ⟨0, 0, 0⟩, false, false⟩, false)⟩
  obtain ⟨f, hf⟩ := choose_lt hc'
  refine ⟨some ⟨b, off, none⟩, cap, (List.range len).map f, by simp, .inr ⟨b, off, rfl, fun i hi => ?_⟩, fun x hx => ?_⟩
  · have hi' : i < len := by simpa using hi
    have e : ((List.range len).map f)[i]'hi = f i := by simp
    rw [e]; exact (hf i hi').2
  · obtain ⟨i, hi, rfl⟩ := List.mem_map.1 hx
    exact (hf i (List.mem_range.1 hi)).1
end Go.Proofs.YtggjceolhbdalaaDoor
