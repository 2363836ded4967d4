/- RowOrder: for every two rows the law returns true, and its arguments read as they did. No condition. -/
import Derived.Test.YtmdgobfghieneaaClaim
import Derived.Test.YtmdgobfghieneaaRowLaws
namespace Go.Proofs.Ytmdgobfghieneaa.rowOrder
open Go.ChangeShapes Go.WideShapes Go.ChangeAt Go.RowKit Go.Joins Go.Plan

theorem cellsRow : Try.prog.cellsOf 23 = 3 := by kernel_rfl

set_option maxRecDepth 100000 in
theorem lifted (os : Os) (started : os.Started) (H : Type) (enc : TypeId × Value → H) :
    ReturnsInHanded {} Try.checked os 3 .any (Rows.rowOrderSpec.pre6 enc Try.prog Try.f3 Rows.rowOrderRow.domain false) (Rows.rowOrderSpec.post enc Try.prog Try.f3 false true false false) := by
  refine returnsInHanded_of_change (C := Try.checked) own started (by kernel_rfl) Try.func3
    (ChangeSpec.witness6 (enc := enc) (C := Try.checked) false ⟨#[], #[.agg #[.int .i64 0, .int .i64 0, .int .i64 0], .agg #[.int .i64 0, .int .i64 0, .int .i64 0]], []⟩ 8 (by kernel_rfl) (by kernel_rfl) (by kernel_rfl) (by kernel_rfl)) ?_
  intro W base args ds gs before hval0 hW hcnd _
  have hval : ∀ (j : Nat) t v, Try.f3.params[j]? = some t → args[j]? = some v → Value.okWide Try.prog W .any base t v := hval0
  have hW' := hW
  obtain ⟨p, q, hA0, hV, rfl, hfz, hnd⟩ := hW
  have hA : DataW.TrodAll enc Try.prog W 0 (fun _ => true) true Try.f3.params.toList args.toList ds p := hA0
  rw [Try.params3] at hA hval
  obtain ⟨v0, v1, d0, d1, p0, p1, rfl, rfl, rfl, h0, h1⟩ := trodAll_two hA
  obtain ⟨rfl, rfl⟩ := trodVars_none hV
  have k0 := h0
  have k1 := h1
  obtain ⟨c0, c1, c2, y0, y1, y2, m, rfl, hd0, hp0, hy0, hy1, hy2⟩ := open_agg3 Try.underlying23 (by kernel_rfl) cellsRow (hval 0 23 v0 rfl rfl) h0
  obtain ⟨a0, e0, -, -⟩ := DataW.trod_int Try.underlying3 hy0
  obtain ⟨a1, e1, -, -⟩ := DataW.trod_int Try.underlying3 hy1
  obtain ⟨a2, e2, -, -⟩ := DataW.trod_int Try.underlying3 hy2
  obtain ⟨u0, u1, u2, z0, z1, z2, m', rfl, hd1, hp1, hz0, hz1, hz2⟩ := open_agg3 Try.underlying23 (by kernel_rfl) cellsRow (hval 1 23 v1 rfl rfl) h1
  obtain ⟨b0, f0, -, -⟩ := DataW.trod_int Try.underlying3 hz0
  obtain ⟨b1, f1, -, -⟩ := DataW.trod_int Try.underlying3 hz1
  obtain ⟨b2, f2, -, -⟩ := DataW.trod_int Try.underlying3 hz2
  simp only [List.cons.injEq, and_true] at e0 e1 e2 f0 f1 f2
  subst e0 e1 e2 f0 f1 f2
  have hlt := hW'.lt
  clear hA0 hval0 hA hval h0 h1 hy0 hy1 hy2 hz0 hz1 hz2 hd0 hp0 hd1 hp1
  simp only [List.append_nil] at hW' hlt
  refine (rowOrder_w a0 a1 a2 b0 b1 b2 W).mono fun e W' ⟨he, hx⟩ => ?_
  subst he
  refine ⟨_, rfl, post_law (pv := []) hW' rfl hx rfl ?_ rfl⟩
  exact trodAll_mk2 (keep1 (by kernel_rfl) (of_decide_eq_true (by kernel_rfl)) k0 hx fun x h => hlt x (by simp [h])) (keep1 (by kernel_rfl) (of_decide_eq_true (by kernel_rfl)) k1 hx fun x h => hlt x (by simp [h]))

theorem holds : Rows.RowOrderSaid :=
  OpenClaim.holds_of_wide 3 Try.f3 rfl rfl rfl rfl rfl rfl rfl ⟨rfl, rfl, rfl, rfl, rfl⟩ rfl rfl rfl rfl rfl (by kernel_rfl) Try.func3 (by kernel_rfl)
    (of_decide_eq_true (by kernel_rfl)) (by unfold Func.isWrapper; rw [if_neg (of_decide_eq_false (by kernel_rfl))]; exact ⟨rfl, rfl⟩)
    (fun os started H enc _ => lifted os started H enc)

#print axioms holds
end Go.Proofs.Ytmdgobfghieneaa.rowOrder
