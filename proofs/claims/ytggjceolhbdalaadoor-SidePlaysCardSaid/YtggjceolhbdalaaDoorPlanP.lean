/- Operations that read nothing, taken first whatever the others do. -/
import Derived.Test.YtggjceolhbdalaaDoorPlan
namespace Go.Plan
variable {P : Program} {ops : Array Oper} {Q : Exit → Act → World → Prop} {E : World → World → Prop} {T : List Nat}

theorem wpAnyE_firstP {i : Nat} {oi : Oper} {v : Value} (hrefl : ∀ w, E w w) (hi : ops[i]? = some oi) (hsel : ∀ (j : Nat) (o : Oper) cs b, ops[j]? = some o → o.op ≠ .select cs b)
    (hQ : ∀ c a w, Q (.panic c) (a.put oi.dst v) w → Q (.panic c) a w) :
    ∀ (fuel : Nat) (listed : Array Bool) (a : Act) (w : World),
      (∀ j oj, ops[j]? = some oj → j ≠ i → listed.getD j true = false → (∀ e ∈ oj.after, Region.binds .any e = true → e.on ≠ i) → oi.apart ops oj = true) →
      i ∈ Region.ready .any ops listed → YieldsIf P ops (fun _ => True) oi v a →
      wpAnyE P ops Q E T fuel (listed.setIfInBounds i true) (a.put oi.dst v) w → wpAnyE P ops Q E T (fuel + 1) listed a w := by
  intro fuel
  induction fuel with
  | zero =>
    intro listed a w _ hr hy H
    refine ⟨fun h => (by rw [h] at hr; cases hr), fun j hj => ?_⟩
    by_cases hji : j = i
    · subst hji; exact hy.wpOp hi trivial ⟨.inr (hrefl w), H⟩
    · have := ready_mono hj hji
      rw [H.1] at this
      cases this
  | succ fuel ih =>
    intro listed a w hfree hr hy H
    refine ⟨fun h => (by rw [h] at hr; cases hr), fun j hj => ?_⟩
    by_cases hji : j = i
    · subst hji; exact hy.wpOp hi trivial ⟨.inr (hrefl w), H⟩
    · have h1 := H.2 j (ready_mono hj hji)
      obtain ⟨hjun, oj, hoj, hall⟩ := mem_ready.1 hj
      have hnot : ∀ e ∈ oj.after, Region.binds .any e = true → e.on ≠ i := fun e he hb heq => by
        have h1 := hall e he hb
        have h0 := (mem_ready.1 hr).1
        rw [heq] at h1
        rcases Nat.lt_or_ge i listed.size with h' | h'
        · simp [h'] at h0 h1; rw [h0] at h1; cases h1
        · simp [Array.getElem?_eq_none h'] at h1
      have h2 := wpOp_putIf hoj (hfree j oj hoj hji hjun hnot) (fun cs b => hsel i oi cs b hi) (fun cs b => hsel j oj cs b hoj) hQ hy h1
      have hfree' : ∀ k ok, ops[k]? = some ok → k ≠ i → (listed.setIfInBounds j true).getD k true = false →
          (∀ e ∈ ok.after, Region.binds .any e = true → e.on ≠ i) → oi.apart ops ok = true := fun k ok hk hki hun hno => by
        refine hfree k ok hk hki ?_ hno
        by_cases hjk : j = k
        · subst hjk; exact hjun
        · rw [getD_set_ne true hjk] at hun; exact hun
      refine wpOp_mono (fun a' w' h3 => ⟨h3.2.1, ih (listed.setIfInBounds j true) a' w' hfree' (ready_mono hr (Ne.symm hji)) ?_ ?_⟩) h2
      · exact h3.1.imp (fun ⟨x, y⟩ => ⟨x, fun w2 _ => y w2 trivial⟩) id
      · rw [Array.setIfInBounds_comm _ _ hji]
        exact h3.2.2

/-- One operation that reads nothing of the world, taken first. -/
theorem left_p {L : List Oper} [hr : Std.Refl E] (i : Nat) {o : Oper} {fuel : Nat} {done : List Nat} {a : Act} {w : World} (hi : nth L i = some o)
    (hb : (Region.noSelect L.toArray && blockOk L.toArray [] [i] done) = true) (h : wpQuiet P L.toArray (fun w' => ∃ p, w' = ext (fun _ _ => True) w p) (fun a' => Left P L.toArray (noPanic Q) E T fuel (done ++ [i]) a' w) [o] a) : Left P L.toArray (noPanic Q) E T (fuel + 1) done a w := by
  simp only [Bool.and_eq_true] at hb
  obtain ⟨hs, hb⟩ := hb
  have hi := nth_get hi
  simp only [blockOk, Bool.and_eq_true, hi, Option.map_some, Option.getD_some] at hb
  obtain ⟨⟨⟨⟨hf, hrd⟩, hc⟩, -⟩, -⟩ := hb
  have hq : qOp P L.toArray (fun w' => ∃ p, w' = ext (fun _ _ => True) w p) i (fun a' => Left P L.toArray (noPanic Q) E T fuel (done ++ [i]) a' w) a := by
    unfold qOp; simp only [hi]
    simpa [wpQuiet] using h
  obtain ⟨v, hy, hK⟩ := yieldsIn_of_qOp hi hq
  have ih : Left P L.toArray (noPanic Q) E T fuel (done ++ [i]) (a.put o.dst v) w := hK
  unfold Left at *
  rw [← listedOf_snoc] at ih
  exact wpAnyE_firstP hr.refl hi (Region.noSelect_spec hs) (fun c a w h => h.elim) fuel _ a w (Region.free_spec hi hf) (by simpa using hrd) (yieldsIf_of (E := fun _ _ => True) hc hy) ih
end Go.Plan
