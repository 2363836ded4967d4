/- RowOuts: for every two Outs, plan, two rows and side the law returns true, and its arguments read as they did. No condition. -/
import Derived.Test.YtmdgobfghieneaaClaim
import Derived.Test.YtmdgobfghieneaaRowOuts
namespace Go.Proofs.Ytmdgobfghieneaa.rowOuts
open Go.ChangeShapes Go.WideShapes Go.ChangeAt Go.RowKit Go.Joins Go.Plan

set_option maxRecDepth 100000 in
theorem lifted (os : Os) (started : os.Started) (H : Type) (enc : TypeId × Value → H) :
    ReturnsInHanded {} Try.checked os 4 .any (Rows.rowOutsSpec.pre6 enc Try.prog Try.f4 Rows.rowOutsRow.domain false) (Rows.rowOutsSpec.post enc Try.prog Try.f4 false true false false) := by
  refine returnsInHanded_of_change (C := Try.checked) own started (by kernel_rfl) Try.func4
    (ChangeSpec.witness6 (enc := enc) (C := Try.checked) false ⟨#[], #[.agg #[.int .i64 0, .int .i64 0, .int .i64 0, .int .i64 0, .int .i64 0, .int .i64 0, .int .i64 0, .bool false, .bool false], .agg #[.int .i64 0, .int .i64 0, .int .i64 0, .int .i64 0, .int .i64 0, .int .i64 0, .int .i64 0, .bool false, .bool false], .agg #[.int .i64 0, .int .i64 0, .int .i64 0], .agg #[.int .i64 0, .int .i64 0, .int .i64 0], .agg #[.int .i64 0, .int .i64 0, .int .i64 0], .int .i64 0], []⟩ 8 (by kernel_rfl) (by kernel_rfl) (by kernel_rfl) (by kernel_rfl)) ?_
  intro W base args ds gs before hval0 hW hcnd _
  have hval : ∀ (j : Nat) t v, Try.f4.params[j]? = some t → args[j]? = some v → Value.okWide Try.prog W .any base t v := hval0
  have hW' := hW
  obtain ⟨p, q, hA0, hV, rfl, hfz, hnd⟩ := hW
  have hA : DataW.TrodAll enc Try.prog W 0 (fun _ => true) true Try.f4.params.toList args.toList ds p := hA0
  rw [Try.params4] at hA hval
  obtain ⟨v0, vs0, d0, ds0, p0, q0, hargs, rfl, rfl, h0, r0⟩ := trodAll_cons hA
  obtain ⟨v1, vs1, d1, ds1, p1, q1, rfl, rfl, rfl, h1, r1⟩ := trodAll_cons r0
  obtain ⟨v2, vs2, d2, ds2, p2, q2, rfl, rfl, rfl, h2, r2⟩ := trodAll_cons r1
  obtain ⟨v3, vs3, d3, ds3, p3, q3, rfl, rfl, rfl, h3, r3⟩ := trodAll_cons r2
  obtain ⟨v4, vs4, d4, ds4, p4, q4, rfl, rfl, rfl, h4, r4⟩ := trodAll_cons r3
  obtain ⟨v5, vs5, d5, ds5, p5, q5, rfl, rfl, rfl, h5, r5⟩ := trodAll_cons r4
  obtain ⟨rfl, rfl, rfl⟩ := trodAll_nil r5
  obtain rfl : args = #[v0, v1, v2, v3, v4, v5] := by cases args; simp_all
  obtain ⟨rfl, rfl⟩ := trodVars_none hV
  obtain ⟨a0, e0, ok0⟩ := out_arg (hval 0 27 v0 rfl rfl) h0
  obtain ⟨a1, e1, ok1⟩ := out_arg (hval 1 27 v1 rfl rfl) h1
  obtain ⟨a2, e2, ok2⟩ := plan_arg (hval 2 31 v2 rfl rfl) h2
  obtain ⟨a3, e3, ok3⟩ := row_arg (hval 3 23 v3 rfl rfl) h3
  obtain ⟨a4, e4, ok4⟩ := row_arg (hval 4 23 v4 rfl rfl) h4
  obtain ⟨a5, e5, ok5⟩ := int_arg (hval 5 3 v5 rfl rfl) h5
  have hlt := hW'.lt
  simp only [List.append_nil] at hW' hlt
  clear hA0 hval0 hA hval
  subst e0 e1 e2 e3 e4 e5
  refine (rowOuts_w a0 a1 a2 a3 a4 a5 ok0 ok1 ok2 ok3 ok4 ok5 W).mono fun e W' ⟨he, hx⟩ => ?_
  subst he
  refine ⟨_, rfl, post_law (pv := []) hW' rfl hx rfl ?_ rfl⟩
  have hk := trodAll_cons_mk (keep1 (by kernel_rfl) (of_decide_eq_true (by kernel_rfl)) h0 hx fun x h => hlt x (by simp [h])) (trodAll_cons_mk (keep1 (by kernel_rfl) (of_decide_eq_true (by kernel_rfl)) h1 hx fun x h => hlt x (by simp [h])) (trodAll_cons_mk (keep1 (by kernel_rfl) (of_decide_eq_true (by kernel_rfl)) h2 hx fun x h => hlt x (by simp [h])) (trodAll_cons_mk (keep1 (by kernel_rfl) (of_decide_eq_true (by kernel_rfl)) h3 hx fun x h => hlt x (by simp [h])) (trodAll_cons_mk (keep1 (by kernel_rfl) (of_decide_eq_true (by kernel_rfl)) h4 hx fun x h => hlt x (by simp [h])) (trodAll_cons_mk (keep1 (by kernel_rfl) (of_decide_eq_true (by kernel_rfl)) h5 hx fun x h => hlt x (by simp [h])) (trodAll_mk0))))))
  simp only [List.append_nil] at hk ⊢
  exact hk

theorem holds : Rows.RowOutsSaid :=
  OpenClaim.holds_of_wide 4 Try.f4 rfl rfl rfl rfl rfl rfl rfl ⟨rfl, rfl, rfl, rfl, rfl⟩ rfl rfl rfl rfl rfl (by kernel_rfl) Try.func4 (by kernel_rfl)
    (of_decide_eq_true (by kernel_rfl)) (by unfold Func.isWrapper; rw [if_neg (of_decide_eq_false (by kernel_rfl))]; exact ⟨rfl, rfl⟩)
    (fun os started H enc _ => lifted os started H enc)

#print axioms holds
end Go.Proofs.Ytmdgobfghieneaa.rowOuts
