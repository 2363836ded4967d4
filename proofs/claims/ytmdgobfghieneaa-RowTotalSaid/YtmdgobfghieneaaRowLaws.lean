/- The laws of row (1.1): the walks of RowOrder, RowOuts, RowTotal. -/
import Derived.Test.YtmdgobfghieneaaRow4
namespace Go.Proofs.Ytmdgobfghieneaa
open Go.RowKit Go.Plan

theorem cmpI_or (a b : Int) (r : Int) : (if cmpI a b = 0 then r else cmpI a b) = if a < b then -1 else if b < a then 1 else r := by
  unfold cmpI
  split
  · split <;> simp_all
  · split
    · simp_all
    · simp_all

theorem rcompareI_eq (k1 t1 v1 k2 t2 v2 : Int) : rcompareI k1 t1 v1 k2 t2 v2 = compareI k1 t1 v1 k2 t2 v2 := by
  simp only [rcompareI, compareI, ordI, orI, cmpI_or]

theorem compareI_or (k1 t1 v1 k2 t2 v2 : Int) (r : Int) : (if compareI k1 t1 v1 k2 t2 v2 = 0 then r else compareI k1 t1 v1 k2 t2 v2) = (if k1 < k2 then -1 else if k2 < k1 then 1 else if t1 < t2 then -1 else if t2 < t1 then 1 else if v1 < v2 then -1 else if v2 < v1 then 1 else r) := by
  simp only [compareI, orI, cmpI_or]
  by_cases h1 : k1 < k2 <;> by_cases h2 : k2 < k1 <;> by_cases h3 : t1 < t2 <;> by_cases h4 : t2 < t1 <;> by_cases h5 : v1 < v2 <;> by_cases h6 : v2 < v1 <;> simp [h1, h2, h3, h4, h5, h6]

theorem rcompareOutI_eq (a b : Out) : rcompareOutI a b = compareOutI a b := by
  simp only [rcompareOutI, compareOutI, outI, ordI, orI, cmpI_or, compareI_or]

theorem rcompare_c' (k1 t1 v1 k2 t2 v2 : Int) (w : World) :
    Calls Try.prog 11 #[.agg #[.int .i64 k1, .int .i64 t1, .int .i64 v1], .agg #[.int .i64 k2, .int .i64 t2, .int .i64 v2]] w fun e w' =>
      e = .returned (.int .i64 (compareI k1 t1 v1 k2 t2 v2)) ∧ Ext w w' := by
  rw [← rcompareI_eq]; exact rcompare_c k1 t1 v1 k2 t2 v2 w

theorem rowOrder_w (k1 t1 v1 k2 t2 v2 : Int) (w : World) :
    Calls Try.prog 3 #[.agg #[.int .i64 k1, .int .i64 t1, .int .i64 v1], .agg #[.int .i64 k2, .int .i64 t2, .int .i64 v2]] w fun e w' =>
      e = .returned (.bool true) ∧ Ext w w' := by
  go_enter Try.func3, Try.ntmps3
  go_wp2_with fail
  refine Plan.begin Plan.Ext 24 rfl (by kernel_rfl) ?_
  refine Plan.left_q 0 (by rfl) (by kernel_rfl) ?_; go_big_quiet_step (fail); refine wpQuiet_nil ?_
  refine Plan.left_q 2 (by rfl) (by kernel_rfl) ?_; go_big_quiet_step (fail); refine wpQuiet_nil ?_
  refine Plan.left_one 1 (by kernel_rfl) (by rfl) (Plan.plain rfl fun K hK => ?_)
  go_wp2_with (fail)
  refine (good_c _ _ _ _).mono ?_
  rintro e w1 ⟨rfl, h1⟩
  have H1 := ExtM.trans _ _ _ (ExtM.refl _).drew h1
  obtain ⟨hc1, hf1, -⟩ := Ext.rules H1
  have hs1_0 : w.heap.size < w1.heap.size := by have := H1.size; simp at this; omega
  have hs1_1 : w.heap.size + 1 < w1.heap.size := by have := H1.size; simp at this; omega
  go_wp2_with (fail)
  refine hK _ _ h1 ?_
  clear hK K
  refine Plan.left_one 3 (by kernel_rfl) (by rfl) (Plan.plain rfl fun K hK => ?_)
  go_wp2_with (fail)
  refine (rgood_c _ _ _ _).mono ?_
  rintro e w2 ⟨rfl, h2⟩
  clear hc1 hf1 hs1_0 hs1_1
  have H2 := ExtM.trans _ _ _ H1 h2
  obtain ⟨hc2, hf2, -⟩ := Ext.rules H2
  have hs2_0 : w.heap.size < w2.heap.size := by have := H2.size; simp at this; omega
  have hs2_1 : w.heap.size + 1 < w2.heap.size := by have := H2.size; simp at this; omega
  go_wp2_with (fail)
  refine hK _ _ h2 ?_
  clear hK K
  refine Plan.left_q 4 (by rfl) (by kernel_rfl) ?_; go_big_quiet_step (fail); refine wpQuiet_nil ?_
  refine Plan.left_q 5 (by rfl) (by kernel_rfl) ?_; go_big_quiet_step (fail); refine wpQuiet_nil ?_
  refine Plan.left_q 6 (by rfl) (by kernel_rfl) ?_; go_big_quiet_step (fail); refine wpQuiet_nil ?_
  refine Plan.left_q 7 (by rfl) (by kernel_rfl) ?_; go_big_quiet_step (fail); refine wpQuiet_nil ?_
  refine Plan.left_q 9 (by rfl) (by kernel_rfl) ?_; go_big_quiet_step (fail); refine wpQuiet_nil ?_
  refine Plan.left_q 10 (by rfl) (by kernel_rfl) ?_; go_big_quiet_step (fail); refine wpQuiet_nil ?_
  refine Plan.left_one 8 (by kernel_rfl) (by rfl) (Plan.want rfl fun K hK => ?_)
  go_wp2_with (fail)
  refine (compare_c _ _ _ _ _ _ _).mono ?_
  rintro e w3 ⟨rfl, h3⟩
  clear hc2 hf2 hs2_0 hs2_1
  have H3 := ExtM.trans _ _ _ H2 h3
  obtain ⟨hc3, hf3, -⟩ := Ext.rules H3
  have hs3_0 : w.heap.size < w3.heap.size := by have := H3.size; simp at this; omega
  have hs3_1 : w.heap.size + 1 < w3.heap.size := by have := H3.size; simp at this; omega
  go_wp2_with (fail)
  refine hK _ _ h3 ?_
  clear hK K
  refine Plan.left_one 11 (by kernel_rfl) (by rfl) (Plan.want rfl fun K hK => ?_)
  go_wp2_with (fail)
  refine (rcompare_c' _ _ _ _ _ _ _).mono ?_
  rintro e w4 ⟨rfl, h4⟩
  clear hc3 hf3 hs3_0 hs3_1
  have H4 := ExtM.trans _ _ _ H3 h4
  obtain ⟨hc4, hf4, -⟩ := Ext.rules H4
  have hs4_0 : w.heap.size < w4.heap.size := by have := H4.size; simp at this; omega
  have hs4_1 : w.heap.size + 1 < w4.heap.size := by have := H4.size; simp at this; omega
  go_wp2_with (fail)
  refine hK _ _ h4 ?_
  clear hK K
  refine Plan.left_q 12 (by rfl) (by kernel_rfl) ?_; go_big_quiet_step (fail); refine wpQuiet_nil ?_
  refine Plan.left_q 13 (by rfl) (by kernel_rfl) ?_; go_big_quiet_step (fail); refine wpQuiet_nil ?_
  refine Plan.left_q 14 (by rfl) (by kernel_rfl) ?_; go_big_quiet_step (fail); refine wpQuiet_nil ?_
  refine Plan.left_q 15 (by rfl) (by kernel_rfl) ?_; go_big_quiet_step (fail); refine wpQuiet_nil ?_
  refine Plan.left_q 16 (by rfl) (by kernel_rfl) ?_; go_big_quiet_step (fail); refine wpQuiet_nil ?_
  refine Plan.left_q 18 (by rfl) (by kernel_rfl) ?_; go_big_quiet_step (fail); refine wpQuiet_nil ?_
  refine Plan.left_q 19 (by rfl) (by kernel_rfl) ?_; go_big_quiet_step (fail); refine wpQuiet_nil ?_
  refine Plan.left_one 17 (by kernel_rfl) (by rfl) (Plan.want rfl fun K hK => ?_)
  go_wp2_with (fail)
  refine (pair_c _ _ _ _ _ _ _).mono ?_
  rintro e w5 ⟨rfl, h5⟩
  clear hc4 hf4 hs4_0 hs4_1
  have H5 := ExtM.trans _ _ _ H4 h5
  obtain ⟨hc5, hf5, -⟩ := Ext.rules H5
  have hs5_0 : w.heap.size < w5.heap.size := by have := H5.size; simp at this; omega
  have hs5_1 : w.heap.size + 1 < w5.heap.size := by have := H5.size; simp at this; omega
  go_wp2_with (fail)
  refine hK _ _ h5 ?_
  clear hK K
  refine Plan.left_one 20 (by kernel_rfl) (by rfl) (Plan.want rfl fun K hK => ?_)
  go_wp2_with (fail)
  refine (rpair_c _ _ _ _ _ _ _).mono ?_
  rintro e w6 ⟨rfl, h6⟩
  clear hc5 hf5 hs5_0 hs5_1
  have H6 := ExtM.trans _ _ _ H5 h6
  obtain ⟨hc6, hf6, -⟩ := Ext.rules H6
  have hs6_0 : w.heap.size < w6.heap.size := by have := H6.size; simp at this; omega
  have hs6_1 : w.heap.size + 1 < w6.heap.size := by have := H6.size; simp at this; omega
  go_wp2_with (fail)
  refine hK _ _ h6 ?_
  clear hK K
  refine Plan.left_q 21 (by rfl) (by kernel_rfl) ?_; go_big_quiet_step (fail); refine wpQuiet_nil ?_
  refine Plan.left_q 22 (by rfl) (by kernel_rfl) ?_; go_big_quiet_step (fail); refine wpQuiet_nil ?_
  refine Plan.left_q 23 (by rfl) (by kernel_rfl) ?_; go_big_quiet_step (fail); refine wpQuiet_nil ?_
  refine Plan.left_done (by kernel_rfl) ?_
  go_wp2
  go_ret
  exact ⟨rfl, by repeat (first | exact ExtM.refl _ | refine ExtM.drew ?_ | refine ExtM.alloc ?_ _ | refine ExtM.trans _ _ _ ?_ (by assumption))⟩
end Go.Proofs.Ytmdgobfghieneaa
