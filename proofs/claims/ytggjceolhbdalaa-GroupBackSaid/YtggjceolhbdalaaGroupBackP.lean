/- GroupBack: for every two lists of Outs and every number the law returns true, and its arguments read as they did. No condition. -/
import Derived.Test.YtggjceolhbdalaaClaim
import Derived.Test.YtggjceolhbdalaaOutArgs
import Derived.Test.YtggjceolhbdalaaGroupBack
namespace Go.Proofs.Ytggjceolhbdalaa.groupBack
open Go.ChangeShapes Go.WideShapes Go.ChangeAt Go.RowKit Go.Joins Go.Plan Go.Deep

theorem contract {H : Type} {enc : TypeId × Value → H} {W : World} {base : Nat} {held : Bool} {sp : Nat → Bool} {r : Reach} {b0 : Nat} {v0 v1 v2 : Value} {d0 d1 d2 : DataW H} {p0 p1 p2 : List MemPlace}
    (hv0 : Value.okWide Try.prog W r b0 22 v0) (h0 : DataW.Trod enc Try.prog W base sp held 22 v0 d0 p0)
    (hv1 : Value.okWide Try.prog W r b0 22 v1) (h1 : DataW.Trod enc Try.prog W base sp held 22 v1 d1 p1)
    (hv2 : Value.okWide Try.prog W r b0 3 v2) (h2 : DataW.Trod enc Try.prog W base sp held 3 v2 d2 p2) :
    Calls Try.prog 4 #[v0, v1, v2] W fun e w' => e = .returned (.bool true) ∧ Ext W w' := by
  obtain ⟨a0, c0, xs, rfl, i0, k0⟩ := outs_arg hv0 h0
  obtain ⟨a1, c1, ys, rfl, i1, k1⟩ := outs_arg hv1 h1
  obtain ⟨t, rfl, ht⟩ := int_arg hv2 h2
  exact groupBack_w a0 a1 c0 c1 xs ys t W k0 k1 i0 i1 ht

set_option maxRecDepth 100000 in
theorem lifted (os : Os) (started : os.Started) (H : Type) (enc : TypeId × Value → H) :
    ReturnsInHanded {} Try.checked os 4 .any (Rows.groupBackSpec.pre6 enc Try.prog Try.f4 Rows.groupBackRow.domain false) (Rows.groupBackSpec.post enc Try.prog Try.f4 false true false false) := by
  refine returnsInHanded_of_change (C := Try.checked) own started (by kernel_rfl) Try.func4
    (ChangeSpec.witness6 (enc := enc) (C := Try.checked) false ⟨#[], #[.slice none 0 0, .slice none 0 0, .int .i64 0], []⟩ 8 (by kernel_rfl) (by kernel_rfl) (by kernel_rfl) (by kernel_rfl)) ?_
  intro W base args ds gs before hval0 hW hcnd _
  have hval : ∀ (j : Nat) t v, Try.f4.params[j]? = some t → args[j]? = some v → Value.okWide Try.prog W .any base t v := hval0
  have hW' := hW
  obtain ⟨p, q, hA0, hV, rfl, hfz, hnd⟩ := hW
  have hA : DataW.TrodAll enc Try.prog W 0 (fun _ => true) true Try.f4.params.toList args.toList ds p := hA0
  rw [Try.params4] at hA hval
  obtain ⟨v0, vs0, d0, ds0, p0, q0, hargs, rfl, rfl, h0, r0⟩ := trodAll_cons hA
  obtain ⟨v1, vs1, d1, ds1, p1, q1, rfl, rfl, rfl, h1, r1⟩ := trodAll_cons r0
  obtain ⟨v2, vs2, d2, ds2, p2, q2, rfl, rfl, rfl, h2, r2⟩ := trodAll_cons r1
  obtain ⟨rfl, rfl, rfl⟩ := trodAll_nil r2
  obtain rfl : args = #[v0, v1, v2] := by cases args; simp_all
  obtain ⟨rfl, rfl⟩ := trodVars_none hV
  have hlt := hW'.lt
  simp only [List.append_nil] at hW' hlt
  refine (contract (hval 0 22 v0 rfl rfl) h0 (hval 1 22 v1 rfl rfl) h1 (hval 2 3 v2 rfl rfl) h2).mono fun e W' ⟨he, hx⟩ => ?_
  subst he
  refine ⟨_, rfl, post_law (pv := []) hW' rfl hx rfl ?_ rfl⟩
  have hk := trodAll_cons_mk (keep1 (by kernel_rfl) (of_decide_eq_true (by kernel_rfl)) h0 hx fun x h => hlt x (by simp [h])) (trodAll_cons_mk (keep1 (by kernel_rfl) (of_decide_eq_true (by kernel_rfl)) h1 hx fun x h => hlt x (by simp [h])) (trodAll_cons_mk (keep1 (by kernel_rfl) (of_decide_eq_true (by kernel_rfl)) h2 hx fun x h => hlt x (by simp [h])) (trodAll_mk0)))
  simp only [List.append_nil] at hk ⊢
  exact hk

theorem holds : Rows.GroupBackSaid :=
  OpenClaim.holds_of_wide 4 Try.f4 rfl rfl rfl rfl rfl rfl rfl ⟨rfl, rfl, rfl, rfl, rfl⟩ rfl rfl rfl rfl rfl (by kernel_rfl) Try.func4 (by kernel_rfl)
    (of_decide_eq_true (by kernel_rfl)) (by unfold Func.isWrapper; rw [if_neg (of_decide_eq_false (by kernel_rfl))]; exact ⟨rfl, rfl⟩)
    (fun os started H enc _ => lifted os started H enc)

#print axioms holds
end Go.Proofs.Ytggjceolhbdalaa.groupBack
