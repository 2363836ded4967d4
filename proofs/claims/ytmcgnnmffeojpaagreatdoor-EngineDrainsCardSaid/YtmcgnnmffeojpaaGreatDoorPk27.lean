/- A join's plan: whether it may be; a new join; and the law's own look at changes. -/
import Derived.Test.YtmcgnnmffeojpaaGreatDoorPk23
namespace Go.Proofs.YtmcgnnmffeojpaaGreatDoor
open Go.RowKit Go.Plan

/-- What Check says of a plan. -/
def checkI (lo hi md : Int) : Int :=
  if ¬ (-1048576 ≤ lo ∧ lo ≤ 1048576) ∨ ¬ (-1048576 ≤ hi ∧ hi ≤ 1048576) then 2 else if hi < lo then 10 else if ¬ (0 ≤ md ∧ md ≤ 3) then 1 else 0
theorem checkI_ok {lo hi md : Int} (h : checkI lo hi md = 0) : PlanOk lo hi := by
  unfold checkI at h
  by_cases h1 : ¬ (-1048576 ≤ lo ∧ lo ≤ 1048576) ∨ ¬ (-1048576 ≤ hi ∧ hi ≤ 1048576)
  · rw [if_pos h1] at h; cases h
  · unfold PlanOk; omega

set_option maxHeartbeats 4000000 in
theorem check_c (lo hi md : Int) (w : World) :
    Calls Tryz.prog 74 #[.agg #[.int .i64 lo, .int .i64 hi, .int .i64 md]] w fun e w' => e = .returned (errV (checkI lo hi md)) ∧ Ext w w' := by
  by_cases h1 : lo < -1048576
  · have d1 : decide (lo < -1048576) = true := by simp [h1]
    rw [show checkI lo hi md = 2 by unfold checkI; rw [if_pos (by omega)]]
    clear h1
    go_enter Tryz.func74, Tryz.ntmps74
    go_wp2_with fail
    go_ret
    exact ⟨rfl, (ExtM.refl _).alloc _⟩
  have d1 : decide (lo < -1048576) = false := by simp; omega
  by_cases h2 : 1048576 < lo
  · have d2 : decide (1048576 < lo) = true := by simp [h2]
    rw [show checkI lo hi md = 2 by unfold checkI; rw [if_pos (by omega)]]
    clear h1 h2
    go_enter Tryz.func74, Tryz.ntmps74
    go_wp2_with fail
    go_ret
    exact ⟨rfl, (ExtM.refl _).alloc _⟩
  have d2 : decide (1048576 < lo) = false := by simp; omega
  by_cases h3 : hi < -1048576
  · have d3 : decide (hi < -1048576) = true := by simp [h3]
    rw [show checkI lo hi md = 2 by unfold checkI; rw [if_pos (by omega)]]
    clear h1 h2 h3
    go_enter Tryz.func74, Tryz.ntmps74
    go_wp2_with fail
    go_ret
    exact ⟨rfl, (ExtM.refl _).alloc _⟩
  have d3 : decide (hi < -1048576) = false := by simp; omega
  by_cases h4 : 1048576 < hi
  · have d4 : decide (1048576 < hi) = true := by simp [h4]
    rw [show checkI lo hi md = 2 by unfold checkI; rw [if_pos (by omega)]]
    clear h1 h2 h3 h4
    go_enter Tryz.func74, Tryz.ntmps74
    go_wp2_with fail
    go_ret
    exact ⟨rfl, (ExtM.refl _).alloc _⟩
  have d4 : decide (1048576 < hi) = false := by simp; omega
  by_cases h5 : hi < lo
  · have d5 : decide (hi < lo) = true := by simp [h5]
    rw [show checkI lo hi md = 10 by unfold checkI; rw [if_neg (by omega), if_pos h5]]
    clear h1 h2 h3 h4 h5
    go_enter Tryz.func74, Tryz.ntmps74
    go_wp2_with fail
    go_ret
    exact ⟨rfl, (ExtM.refl _).alloc _⟩
  have d5 : decide (hi < lo) = false := by simp; omega
  by_cases h6 : md < 0
  · have d6 : decide (md < 0) = true := by simp [h6]
    rw [show checkI lo hi md = 1 by unfold checkI; rw [if_neg (by omega), if_neg h5, if_pos (by omega)]]
    clear h1 h2 h3 h4 h5 h6
    go_enter Tryz.func74, Tryz.ntmps74
    go_wp2_with fail
    go_ret
    exact ⟨rfl, (ExtM.refl _).alloc _⟩
  have d6 : decide (md < 0) = false := by simp; omega
  by_cases h7 : 3 < md
  · have d7 : decide (3 < md) = true := by simp [h7]
    rw [show checkI lo hi md = 1 by unfold checkI; rw [if_neg (by omega), if_neg h5, if_pos (by omega)]]
    clear h1 h2 h3 h4 h5 h6 h7
    go_enter Tryz.func74, Tryz.ntmps74
    go_wp2_with fail
    go_ret
    exact ⟨rfl, (ExtM.refl _).alloc _⟩
  have d7 : decide (3 < md) = false := by simp; omega
  rw [show checkI lo hi md = 0 by unfold checkI; rw [if_neg (by omega), if_neg h5, if_neg (by omega)]]
  clear h1 h2 h3 h4 h5 h6 h7
  go_enter Tryz.func74, Tryz.ntmps74
  go_wp2_with fail
  go_ret
  exact ⟨rfl, (ExtM.refl _).alloc _⟩

/-- New, of a plan that may not be; of one that may. -/
theorem jnewBad_c (lo hi md : Int) (w : World) (hc : checkI lo hi md ≠ 0) :
    Calls Tryz.prog 48 #[.agg #[.int .i64 lo, .int .i64 hi, .int .i64 md]] w fun e w' => e = .returned (.tuple #[.pointer none, errV (checkI lo hi md)]) ∧ Ext w w' := by
  have hk := fun u => check_c lo hi md u
  have he : errV (checkI lo hi md) = .iface 48 (.int .i64 (checkI lo hi md)) := by unfold errV; rw [if_neg hc]
  rw [he] at hk ⊢
  generalize checkI lo hi md = c at *
  clear hc he
  go_enter Tryz.func48, Tryz.ntmps48
  go_wp2_with (go_at_call 74; refine (hk _).mono ?_; rintro e w1 ⟨rfl, hx1⟩)
  go_ret2
  exact ⟨rfl, ExtM.trans _ _ _ ((ExtM.refl w).alloc _) hx1⟩
theorem jnew_c (lo hi md : Int) (w : World) (hc : checkI lo hi md = 0) :
    Calls Tryz.prog 48 #[.agg #[.int .i64 lo, .int .i64 hi, .int .i64 md]] w fun e w' => ∃ P M, e = .returned (.tuple #[.pointer (some ⟨P, 0, none⟩), .nilIface]) ∧ Ext w w' ∧ w.heap.size ≤ P ∧ w.heap.size ≤ M ∧ JIs w' P M (.slice none 0 0) (.slice none 0 0) lo hi md ⟨[], [], -1099511627777, -1099511627777, 0⟩ := by
  have hk := fun u => check_c lo hi md u
  rw [hc, errV, if_pos rfl] at hk
  clear hc
  have b0 : (w.alloc (.cells #[.int .i64 lo, .int .i64 hi, .int .i64 md] 32)).cell? ⟨w.heap.size, 0, none⟩ = some (.int .i64 lo) := by go_simp
  have b1 : (w.alloc (.cells #[.int .i64 lo, .int .i64 hi, .int .i64 md] 32)).cell? ⟨w.heap.size, 1, none⟩ = some (.int .i64 hi) := by go_simp
  have b2 : (w.alloc (.cells #[.int .i64 lo, .int .i64 hi, .int .i64 md] 32)).cell? ⟨w.heap.size, 2, none⟩ = some (.int .i64 md) := by go_simp
  have lB : w.heap.size < (w.alloc (.cells #[.int .i64 lo, .int .i64 hi, .int .i64 md] 32)).heap.size := by simp
  have hx0 : Ext w (w.alloc (.cells #[.int .i64 lo, .int .i64 hi, .int .i64 md] 32)) := (ExtM.refl w).alloc _
  go_enter Tryz.func48, Tryz.ntmps48
  go_upto_region 4 with (go_at_call 74; refine (hk _).mono ?_; rintro e w1 ⟨rfl, hx1⟩)
  have k := fun o => hx1.cell (p := ⟨w.heap.size, o, none⟩) lB (fun h => h)
  have c0 := (k _).trans b0
  have c1 := (k _).trans b1
  have c2 := (k _).trans b2
  have lB1 : w.heap.size < w1.heap.size := Nat.lt_of_lt_of_le lB hx1.size
  have hX1 := ExtM.trans _ _ _ hx0 hx1
  clear k b0 b1 b2 lB hx0 hx1
  refine Plan.begin Plan.Ext 6 rfl (by kernel_rfl) ?_
  refine Plan.left_q 0 (by rfl) (by kernel_rfl) ?_; go_big_quiet_step (fail); refine wpQuiet_nil ?_
  refine Plan.left_one 1 (by kernel_rfl) (by rfl) (Plan.plain rfl fun K hK => ?_)
  go_wp2_with (fail)
  refine (new_c _).mono ?_
  rintro e w5 ⟨rfl, h5, hmk⟩
  have H5 := ExtM.trans _ _ _ (ExtM.refl _).drew h5
  obtain ⟨hc5, hf5, -⟩ := Ext.rules H5
  have hs5_0 : w.heap.size < w5.heap.size := by have := H5.size; (try simp at this); omega
  go_wp2_with (fail)
  refine hK _ _ h5 ?_
  clear hK K
  refine Plan.left_q 2 (by rfl) (by kernel_rfl) ?_; go_big_quiet_step (fail); refine wpQuiet_nil ?_
  refine Plan.left_one 3 (by kernel_rfl) (by rfl) (Plan.plain rfl fun K hK => ?_)
  go_wp2_with (fail)
  refine hK _ _ ((ExtM.refl _).alloc _) ?_
  clear hK K
  refine Plan.left_q 4 (by rfl) (by kernel_rfl) ?_; go_big_quiet_step (fail); refine wpQuiet_nil ?_
  refine Plan.left_q 5 (by rfl) (by kernel_rfl) ?_; go_big_quiet_step (fail); refine wpQuiet_nil ?_
  refine Plan.left_done (by kernel_rfl) ?_
  go_wp2_with fail
  go_ret2
  have hx6 : Ext w5 (w5.alloc (.cells #[.int .i64 lo, .int .i64 hi, .int .i64 md, .slice none 0 0, .slice none 0 0, .pointer (some ⟨w1.heap.size, 0, none⟩), .int .i64 0] 131)) := (ExtM.refl w5).alloc _
  have hM : w1.heap.size < w5.heap.size := hmk.lt
  have hc : ∀ o v, (#[Value.int .i64 lo, .int .i64 hi, .int .i64 md, .slice none 0 0, .slice none 0 0, .pointer (some ⟨w1.heap.size, 0, none⟩), .int .i64 0] : Array Value)[o]? = some v → (w5.alloc (.cells #[.int .i64 lo, .int .i64 hi, .int .i64 md, .slice none 0 0, .slice none 0 0, .pointer (some ⟨w1.heap.size, 0, none⟩), .int .i64 0] 131)).cell? ⟨w5.heap.size, o, none⟩ = some v := fun o v h =>
    (World.cell?_alloc_at _ _ _ o (by simp)).trans h
  have hf : ∀ o, (w5.alloc (.cells #[.int .i64 lo, .int .i64 hi, .int .i64 md, .slice none 0 0, .slice none 0 0, .pointer (some ⟨w1.heap.size, 0, none⟩), .int .i64 0] 131)).frozen? ⟨w5.heap.size, o, none⟩ = false := fun o => by
    rw [Go.RowKit.frozen?_alloc_cells]; simp [World.frozen?]
  have hrow : ∀ k, (Value.slice none 0 0).ownBlock ≠ some k := fun k e => by cases e
  refine ⟨w5.heap.size, w1.heap.size, rfl, ExtM.trans _ _ _ hX1 (ExtM.trans _ _ _ H5 hx6), by have := hX1.size; omega, hX1.size, ?_⟩
  exact ⟨hc 0 _ rfl, hc 1 _ rfl, hc 2 _ rfl, ⟨hc 3 _ rfl, hf 3, ⟨rfl, .inl ⟨rfl, rfl⟩⟩, List.Pairwise.nil, hrow _⟩, ⟨hc 4 _ rfl, hf 4, ⟨rfl, .inl ⟨rfl, rfl⟩⟩, List.Pairwise.nil, hrow _⟩, hc 5 _ rfl, hc 6 _ rfl, hf 6, hmk.extM hx6 (fun h => h), by omega, hrow _, hrow _, fun k hk => absurd hk (hrow k)⟩
end Go.Proofs.YtmcgnnmffeojpaaGreatDoor
