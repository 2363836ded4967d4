/- Rows of elements of K cells: one more behind, one other in its place. -/
import Derived.Test.YtggjceolhbdalaaDoorKRow
namespace Go.Plan
open Go.RowKit

section
variable {P : Program} {α : Type} {enc : α → List Value} {K : Nat} {T : TypeId}

/-- 'append(v, x)' of one element. -/
theorem run_appendK (hK : ∀ x, (enc x).length = K) (h1 : ∀ x, ∀ u ∈ enc x, u.oneCell' = true) (ts : TypeId) (z : Value) (bytes : Nat) (hinfo : (P.info? T).map (fun i => (i.zero, i.size, i.bytes)) = some (some z, K, bytes)) (hz : z.cells.size = K) (hK0 : 0 < K) (hu : P.underlying ts = some (.slice T)) (hby : bytes ≤ 1000)
    (W : World) (base nb c : Nat) (v : Value) (acc : List α) (x : α) (ty : TypeId) (hown : W.ownsRow base T K v acc.length (acc.flatMap enc)) (hx : ∀ j u, (enc x)[j]? = some u → W.cell? ⟨nb, j, none⟩ = some u) (hl : acc.length < 1000000) (hb : base ≤ W.heap.size) :
    ∃ v' w', (Builtin.append_ #[ts, ts] ty #[v, .slice (some ⟨nb, 0, none⟩) 1 c]).run P W = .ok v' w' ∧ w'.ownsRow base T K v' (acc ++ [x]).length ((acc ++ [x]).flatMap enc) ∧ ExtM (fun k => v.ownBlock = some k) W w' ∧ (v'.ownBlock = v.ownBlock ∨ ∃ k, v'.ownBlock = some k ∧ W.heap.size ≤ k) := by
  obtain ⟨i0, hi, hz0, hz1, hz2⟩ := info_parts hinfo
  obtain ⟨v', w', h1', h2, h3, -, h5⟩ := run_append_own_at (P := P) W base ts ty T i0 z K bytes hu hi hz0 hz1 hz2 hz hK0 v acc.length _ hown ⟨nb, 0, none⟩ 1 c (enc x) (by rw [hK, Nat.one_mul])
    (fun j u hj => by
      have e1 : (⟨nb, 0, none⟩ : Addr).add j = ⟨nb, j, none⟩ := by unfold Addr.add; split <;> simp_all
      rw [e1]; exact hx j u hj) (h1 x) (by unfold maxLen; omega) (by
        have h9 : (acc.length + 1) * bytes ≤ (acc.length + 1) * 1000 := Nat.mul_le_mul_left _ hby
        omega) hb
  refine ⟨v', w', h1', ?_, ⟨h3.os, h3.tape, h3.output, h3.size, fun k hk hn => h3.block k hk (fun e => hn e.symm)⟩, ?_⟩
  · rw [List.flatMap_append, List.length_append]
    simpa using h2
  · rcases h5 with h | h
    · exact .inl h
    · exact .inr ⟨_, h, Nat.le_refl _⟩

theorem flat_set (hK : ∀ x, (enc x).length = K) (l : List α) (i c : Nat) (hi : i < l.length) (hc : c < K) (u : Value) (x' : α) (hx : enc x' = (enc (l[i]'hi)).set c u) : (l.set i x').flatMap enc = (l.flatMap enc).set (i * K + c) u := by
  induction l generalizing i with
  | nil => simp at hi
  | cons x r ih =>
    cases i with
    | zero =>
      rw [List.set_cons_zero, List.flatMap_cons, List.flatMap_cons, List.set_append_left _ _ (by rw [hK]; omega), hx]
      simp
    | succ i =>
      rw [List.set_cons_succ, List.flatMap_cons, List.flatMap_cons, List.set_append_right _ _ (by rw [hK, Nat.succ_mul]; omega), hK, ih i (by simpa using hi) (by simpa using hx)]
      congr 2
      rw [Nat.succ_mul]; omega

/-- One cell of one element is another one. -/
theorem own_setCell (hK : ∀ x, (enc x).length = K) {w : World} {b g cap : Nat} {xs : List α} (h : w.ownsRow b T K (.slice (some ⟨g, 0, none⟩) xs.length cap) xs.length (xs.flatMap enc)) (i c : Nat) (hi : i < xs.length) (hc : c < K) (u : Value) (x' : α) (hx : enc x' = (enc (xs[i]'hi)).set c u) :
    (w.setCell ⟨g, i * K + c, none⟩ u).ownsRow b T K (.slice (some ⟨g, 0, none⟩) xs.length cap) (xs.set i x').length ((xs.set i x').flatMap enc) := by
  obtain ⟨hl, h⟩ := h
  rcases h with ⟨h0, -⟩ | ⟨g', cap', cur, he, e1, e2, e3, e4, e5, e6⟩
  · cases h0
  injection he with he1 he2 he3
  injection he1 with he1
  injection he1 with he1
  subst he1
  subst he3
  rw [flat_set hK xs i c hi hc u x' hx, List.length_set]
  refine ⟨by rw [List.length_set, hl], .inr ⟨g, cap, cur.setIfInBounds (i * K + c) u, rfl, e1, ?_, e3, e4, by rw [Array.size_setIfInBounds, e5], ?_⟩⟩
  · simp [World.setCell, Array.getElem?_modify, e2]
  · rw [Array.toList_setIfInBounds, ← e6, List.take_set]
end
end Go.Plan
