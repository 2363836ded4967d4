/- Rows of elements of K cells: all of another row behind; what an append leaves, as a law of the walk. -/
import Derived.Test.YtggjceolhbdalaaDoorKRow2
namespace Go.Plan
open Go.RowKit

section
variable {P : Program} {α : Type} {enc : α → List Value} {K : Nat} {T : TypeId}

/-- 'append(v, s...)' of a whole row. -/
theorem run_appendAllK (hK : ∀ x, (enc x).length = K) (h1 : ∀ x, ∀ u ∈ enc x, u.oneCell' = true) (ts : TypeId) (z : Value) (bytes : Nat) (hinfo : (P.info? T).map (fun i => (i.zero, i.size, i.bytes)) = some (some z, K, bytes)) (hz : z.cells.size = K) (hK0 : 0 < K) (hu : P.underlying ts = some (.slice T)) (hby : bytes ≤ 1000)
    (W : World) (base bs : Nat) (v s : Value) (acc xs : List α) (ty : TypeId) (hown : W.ownsRow base T K v acc.length (acc.flatMap enc)) (hs : W.ownsRow bs T K s xs.length (xs.flatMap enc)) (hl : acc.length + xs.length < 1000000) (hb : base ≤ W.heap.size) :
    ∃ v' w', (Builtin.append_ #[ts, ts] ty #[v, s]).run P W = .ok v' w' ∧ w'.ownsRow base T K v' (acc ++ xs).length ((acc ++ xs).flatMap enc) ∧ ExtM (fun k => v.ownBlock = some k) W w' ∧ (v'.ownBlock = v.ownBlock ∨ ∃ k, v'.ownBlock = some k ∧ W.heap.size ≤ k) := by
  obtain ⟨i0, hi, hz0, hz1, hz2⟩ := info_parts hinfo
  rcases rowIs_of_own hs with ⟨rfl, h0⟩ | ⟨g, cap, f, rfl, -, hg, hn, hc63, hf⟩
  · obtain rfl := List.eq_nil_of_length_eq_zero h0
    obtain ⟨p, c, rfl, hpc⟩ := own_slice hown
    refine ⟨.slice p acc.length c, W, ?_, by simpa using hown, ExtM.refl _, .inl rfl⟩
    cases p with
    | none => simp [Builtin.append_, run_underlying hu, Builtin.lenOf, Builtin.firstCells, sizeOf, typeInfo, hi, hpc]
    | some a => simp [Builtin.append_, run_underlying hu, Builtin.lenOf, Builtin.firstCells, sizeOf, typeInfo, hi, hpc, storeCells]
  · obtain ⟨v', w', h1', h2, h3, -, h5⟩ := run_append_own_at (P := P) W base ts ty T i0 z K bytes hu hi hz0 hz1 hz2 hz hK0 v acc.length _ hown ⟨g, 0, none⟩ xs.length cap (xs.flatMap enc) (flat_len hK xs)
      (fun j u hj => by
        have e1 : (⟨g, 0, none⟩ : Addr).add j = ⟨g, j, none⟩ := by unfold Addr.add; split <;> simp_all
        have hj2 : j < xs.length * K := by rw [← flat_len hK xs]; exact (List.getElem?_eq_some_iff.1 hj).1
        have hle : xs.length * K ≤ cap * K := Nat.mul_le_mul_right K hn
        rw [e1, hg.cell (by omega), ← hf j hj2, hj])
      (fun u hu => by obtain ⟨x, -, hx⟩ := List.mem_flatMap.1 hu; exact h1 x u hx) (by unfold maxLen; omega) (by
        have h9 : (acc.length + xs.length) * bytes ≤ (acc.length + xs.length) * 1000 := Nat.mul_le_mul_left _ hby
        omega) hb
    refine ⟨v', w', h1', ?_, ⟨h3.os, h3.tape, h3.output, h3.size, fun k hk hn => h3.block k hk (fun e => hn e.symm)⟩, ?_⟩
    · rw [List.flatMap_append, List.length_append]
      exact h2
    · rcases h5 with h | h
      · exact .inl h
      · exact .inr ⟨_, h, Nat.le_refl _⟩

/-- An append, by what it leaves. -/
theorem wp_append_law {w : World} {o : Oper} {a : Act} {K : Act → World → Prop} {Q : Exit → Act → World → Prop} {t : TypeId} {v x : Value} {R : Value → World → Prop} (hr : ∃ v' w', (Builtin.append_ #[t, t] o.type #[v, x]).run P w = .ok v' w' ∧ R v' w') (so xo : Operand)
    (ho : o.op = .call { callee := .builtin .append, args := #[so, xo], argTypes := #[t, t] }) (hs : a.eval so = v) (hx : a.eval xo = x) (h : ∀ v' w', R v' w' → K (a.put o.dst v') w') : o.wp P a w K Q := by
  obtain ⟨v', w', hr, hR⟩ := hr
  exact wp_append_run hr rfl so xo ho hs hx (h v' w' hR)
end
end Go.Plan
