/- What slices of the program's plain structs look like, as they come in. -/
import Derived.Test.YtggjceolhbdalaaDoorShapes
import Derived.Deep.Slices
namespace Go.Proofs.YtggjceolhbdalaaDoor
open Go.ChangeShapes Go.WideShapes Go.ChangeAt Go.RowKit Go.Joins Go.Plan Go.Deep

section
variable {H : Type} {enc : TypeId × Value → H} {w : World} {base : Nat} {spare : Nat → Bool} {held : Bool}

set_option maxRecDepth 100000 in
/-- A slice whose elements take C cells each, at least one. -/
theorem slice_arg {r : Reach} {b0 : Nat} {t e : TypeId} {v : Value} {d : DataW H} {p : List MemPlace} (C : Nat) (hC : 0 < C) (ht : Tryd.prog.underlying t = some (.slice e)) (hc : Tryd.prog.cellsOf e = C)
    (hv : Value.okWide Tryd.prog w r b0 t v) (h : DataW.Trod enc Tryd.prog w base spare held t v d p) :
    ∃ (a : Option Addr) (len cap : Nat), v = .slice a len cap ∧ len ≤ cap ∧ cap ≤ maxLen ∧ (len = 0 ∨ ∃ b off, a = some ⟨b, off, none⟩ ∧
      ∀ k, k < len → ∃ (cs : List Value) (n : Nat) (y : DataW H × List MemPlace), cs.length = C ∧ (∀ j, j < C → w.cell? ⟨b, off + k * C + j, none⟩ = cs[j]?) ∧ DataW.trod enc Tryd.prog w base spare held n e cs = some y) := by
  obtain ⟨a0, len, cap, rfl⟩ := okWide_slice ht hv
  obtain ⟨fuel, hf⟩ := h
  rcases open_slice ht hf with ⟨hcs, -⟩ | ⟨a, len', cap', m, n, D, Pl, hcs, -, hl, hm, hmm, -, hi⟩
  · simp only [Value.cells, List.cons.injEq, and_true, Value.slice.injEq] at hcs
    obtain ⟨rfl, rfl, rfl⟩ := hcs
    exact ⟨_, _, _, rfl, Nat.le_refl _, Nat.zero_le _, .inl rfl⟩
  · simp only [Value.cells, List.cons.injEq, and_true, Value.slice.injEq] at hcs
    obtain ⟨rfl, rfl, rfl⟩ := hcs
    refine ⟨_, _, _, rfl, hl, hm, ?_⟩
    rcases Nat.eq_zero_or_pos len with h0 | h0
    · exact .inl h0
    refine .inr ?_
    have hml : len ≤ m := by rw [hmm]; split <;> omega
    rw [hc] at hi
    obtain ⟨b, off, sp⟩ := a
    have hsp : sp = none := by
      obtain ⟨cs', h1, -⟩ := hi 0 (by omega)
      obtain ⟨-, hcl, hat⟩ := World.cells?_some h1
      have h2 := hat 0 hC
      rw [List.getElem?_eq_getElem (by omega)] at h2
      simpa [Addr.add] using World.cell?_spot h2
    subst hsp
    refine ⟨b, off, rfl, fun k hk => ?_⟩
    obtain ⟨cs', h1, h2⟩ := hi k (by omega)
    obtain ⟨-, hcl, hat⟩ := World.cells?_some h1
    refine ⟨cs', n, _, hcl, fun j hj => ?_, h2⟩
    rw [← hat j hj]
    congr 1
    simp only [Addr.add]
    split <;> split <;> simp_all <;> omega
end
end Go.Proofs.YtggjceolhbdalaaDoor
