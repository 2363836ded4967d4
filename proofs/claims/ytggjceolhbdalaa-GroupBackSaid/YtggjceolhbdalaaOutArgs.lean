/- Slices of Outs as they come in. -/
import Derived.Test.YtggjceolhbdalaaSliceArgs
import Derived.Test.YtggjceolhbdalaaBagBackC
namespace Go.Proofs.Ytggjceolhbdalaa
open Go.ChangeShapes Go.WideShapes Go.ChangeAt Go.RowKit Go.Joins Go.Plan Go.Deep

set_option maxRecDepth 100000 in
theorem outs_arg {H : Type} {enc : TypeId × Value → H} {w : World} {base : Nat} {spare : Nat → Bool} {held : Bool} {r : Reach} {b0 : Nat} {v : Value} {d : DataW H} {p : List MemPlace}
    (hv : Value.okWide Try.prog w r b0 22 v) (h : DataW.Trod enc Try.prog w base spare held 22 v d p) :
    ∃ (a : Option Addr) (cap : Nat) (xs : List Out), v = .slice a xs.length cap ∧ OutsIn w a xs ∧ (∀ x ∈ xs, x.ok) := by
  obtain ⟨a, len, cap, rfl, -, -, h0⟩ := slice_arg 9 (by omega) Try.underlying22 cellsOut hv h
  rcases h0 with rfl | ⟨b, off, rfl, hc⟩
  · exact ⟨a, cap, [], rfl, .inl rfl, by simp⟩
  have hc' : ∀ k, k < len → ∃ x : Out, x.ok ∧ ElemAt w b (off + k * 9) x := fun k hk => by
    obtain ⟨cs, n, y, hl, hcell, ht⟩ := hc k hk
    obtain ⟨x, rfl, hx⟩ := out_cells ht
    exact ⟨x, hx, ⟨hcell 0 (by omega), hcell 1 (by omega), hcell 2 (by omega), hcell 3 (by omega), hcell 4 (by omega), hcell 5 (by omega), hcell 6 (by omega), hcell 7 (by omega), hcell 8 (by omega)⟩⟩
  obtain ⟨f, hf⟩ := choose_lt hc'
  refine ⟨some ⟨b, off, none⟩, cap, (List.range len).map f, by simp, .inr ⟨b, off, rfl, fun i hi => ?_⟩, fun x hx => ?_⟩
  · have hi' : i < len := by simpa using hi
    have e : ((List.range len).map f)[i]'hi = f i := by simp
    rw [e]; exact (hf i hi').2
  · obtain ⟨i, hi, rfl⟩ := List.mem_map.1 hx
    exact (hf i (List.mem_range.1 hi)).1
end Go.Proofs.Ytggjceolhbdalaa
