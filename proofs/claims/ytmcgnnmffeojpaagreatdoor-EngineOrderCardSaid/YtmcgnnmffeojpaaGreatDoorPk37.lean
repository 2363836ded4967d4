/- A tale in memory, and a new one. -/
import Derived.Test.YtmcgnnmffeojpaaGreatDoorPk13
import Derived.Test.YtmcgnnmffeojpaaGreatDoorPk31
import Derived.Test.YtmcgnnmffeojpaaGreatDoorPk36
import Derived.Deep.DeepCutAuto
/- A join's plan: whether it may be; a new join; and the law's own look at changes. -/
namespace Go.Proofs.YtmcgnnmffeojpaaGreatDoor
open Go.RowKit Go.Plan

/-- What Check says of a plan. -/
def checkI (lo hi md : Int) : Int :=
  if ¬ (-1048576 ≤ lo ∧ lo ≤ 1048576) ∨ ¬ (-1048576 ≤ hi ∧ hi ≤ 1048576) then 2 else if hi < lo then 10 else if ¬ (0 ≤ md ∧ md ≤ 3) then 1 else 0
theorem checkI_ok {lo hi md : Int} (h : checkI lo hi md = 0) : PlanOk lo hi := by
  unfold checkI at h
  by_cases h1 : ¬ (-1048576 ≤ lo ∧ lo ≤ 1048576) ∨ ¬ (-1048576 ≤ hi ∧ hi ≤ 1048576)
  · rw [if_pos h1] at h; cases h
  · unfold PlanOk; omega

set_option maxHeartbeats 4000000 in
theorem check_c (lo hi md : Int) (w : World) :
    Calls Tryz.prog 74 #[.agg #[.int .i64 lo, .int .i64 hi, .int .i64 md]] w fun e w' => e = .returned (errV (checkI lo hi md)) ∧ Ext w w' := by
  by_cases h1 : lo < -1048576
  · have d1 : decide (lo < -1048576) = true := by simp [h1]
    rw [show checkI lo hi md = 2 by unfold checkI; rw [if_pos (by omega)]]
    clear h1
    go_enter Tryz.func74, Tryz.ntmps74
    go_wp2_with fail
    go_ret
    exact ⟨rfl, (ExtM.refl _).alloc _⟩
  have d1 : decide (lo < -1048576) = false := by simp; omega
  by_cases h2 : 1048576 < lo
  · have d2 : decide (1048576 < lo) = true := by simp [h2]
    rw [show checkI lo hi md = 2 by unfold checkI; rw [if_pos (by omega)]]
    clear h1 h2
    go_enter Tryz.func74, Tryz.ntmps74
    go_wp2_with fail
    go_ret
    exact ⟨rfl, (ExtM.refl _).alloc _⟩
  have d2 : decide (1048576 < lo) = false := by simp; omega
  by_cases h3 : hi < -1048576
  · have d3 : decide (hi < -1048576) = true := by simp [h3]
    rw [show checkI lo hi md = 2 by unfold checkI; rw [if_pos (by omega)]]
    clear h1 h2 h3
    go_enter Tryz.func74, Tryz.ntmps74
    go_wp2_with fail
    go_ret
    exact ⟨rfl, (ExtM.refl _).alloc _⟩
  have d3 : decide (hi < -1048576) = false := by simp; omega
  by_cases h4 : 1048576 < hi
  · have d4 : decide (1048576 < hi) = true := by simp [h4]
    rw [show checkI lo hi md = 2 by unfold checkI; rw [if_pos (by omega)]]
    clear h1 h2 h3 h4
    go_enter Tryz.func74, Tryz.ntmps74
    go_wp2_with fail
    go_ret
    exact ⟨rfl, (ExtM.refl _).alloc _⟩
  have d4 : decide (1048576 < hi) = false := by simp; omega
  by_cases h5 : hi < lo
  · have d5 : decide (hi < lo) = true := by simp [h5]
    rw [show checkI lo hi md = 10 by unfold checkI; rw [if_neg (by omega), if_pos h5]]
    clear h1 h2 h3 h4 h5
    go_enter Tryz.func74, Tryz.ntmps74
    go_wp2_with fail
    go_ret
    exact ⟨rfl, (ExtM.refl _).alloc _⟩
  have d5 : decide (hi < lo) = false := by simp; omega
  by_cases h6 : md < 0
  · have d6 : decide (md < 0) = true := by simp [h6]
    rw [show checkI lo hi md = 1 by unfold checkI; rw [if_neg (by omega), if_neg h5, if_pos (by omega)]]
    clear h1 h2 h3 h4 h5 h6
    go_enter Tryz.func74, Tryz.ntmps74
    go_wp2_with fail
    go_ret
    exact ⟨rfl, (ExtM.refl _).alloc _⟩
  have d6 : decide (md < 0) = false := by simp; omega
  by_cases h7 : 3 < md
  · have d7 : decide (3 < md) = true := by simp [h7]
    rw [show checkI lo hi md = 1 by unfold checkI; rw [if_neg (by omega), if_neg h5, if_pos (by omega)]]
    clear h1 h2 h3 h4 h5 h6 h7
    go_enter Tryz.func74, Tryz.ntmps74
    go_wp2_with fail
    go_ret
    exact ⟨rfl, (ExtM.refl _).alloc _⟩
  have d7 : decide (3 < md) = false := by simp; omega
  rw [show checkI lo hi md = 0 by unfold checkI; rw [if_neg (by omega), if_neg h5, if_neg (by omega)]]
  clear h1 h2 h3 h4 h5 h6 h7
  go_enter Tryz.func74, Tryz.ntmps74
  go_wp2_with fail
  go_ret
  exact ⟨rfl, (ExtM.refl _).alloc _⟩

/-- New, of a plan that may not be; of one that may. -/
theorem jnewBad_c (lo hi md : Int) (w : World) (hc : checkI lo hi md ≠ 0) :
    Calls Tryz.prog 48 #[.agg #[.int .i64 lo, .int .i64 hi, .int .i64 md]] w fun e w' => e = .returned (.tuple #[.pointer none, errV (checkI lo hi md)]) ∧ Ext w w' := by
  have hk := fun u => check_c lo hi md u
  have he : errV (checkI lo hi md) = .iface 48 (.int .i64 (checkI lo hi md)) := by unfold errV; rw [if_neg hc]
  rw [he] at hk ⊢
  generalize checkI lo hi md = c at *
  clear hc he
  go_enter Tryz.func48, Tryz.ntmps48
  go_wp2_with (go_at_call 74; refine (hk _).mono ?_; rintro e w1 ⟨rfl, hx1⟩)
  go_ret2
  exact ⟨rfl, ExtM.trans _ _ _ ((ExtM.refl w).alloc _) hx1⟩
theorem jnew_c (lo hi md : Int) (w : World) (hc : checkI lo hi md = 0) :
    Calls Tryz.prog 48 #[.agg #[.int .i64 lo, .int .i64 hi, .int .i64 md]] w fun e w' => ∃ P M, e = .returned (.tuple #[.pointer (some ⟨P, 0, none⟩), .nilIface]) ∧ Ext w w' ∧ w.heap.size ≤ P ∧ w.heap.size ≤ M ∧ JIs w' P M (.slice none 0 0) (.slice none 0 0) lo hi md ⟨[], [], -1099511627777, -1099511627777, 0⟩ := by
  have hk := fun u => check_c lo hi md u
  rw [hc, errV, if_pos rfl] at hk
  clear hc
  have b0 : (w.alloc (.cells #[.int .i64 lo, .int .i64 hi, .int .i64 md] 32)).cell? ⟨w.heap.size, 0, none⟩ = some (.int .i64 lo) := by go_simp
  have b1 : (w.alloc (.cells #[.int .i64 lo, .int .i64 hi, .int .i64 md] 32)).cell? ⟨w.heap.size, 1, none⟩ = some (.int .i64 hi) := by go_simp
  have b2 : (w.alloc (.cells #[.int .i64 lo, .int .i64 hi, .int .i64 md] 32)).cell? ⟨w.heap.size, 2, none⟩ = some (.int .i64 md) := by go_simp
  have lB : w.heap.size < (w.alloc (.cells #[.int .i64 lo, .int .i64 hi, .int .i64 md] 32)).heap.size := by simp
  have hx0 : Ext w (w.alloc (.cells #[.int .i64 lo, .int .i64 hi, .int .i64 md] 32)) := (ExtM.refl w).alloc _
  go_enter Tryz.func48, Tryz.ntmps48
  go_upto_region 4 with (go_at_call 74; refine (hk _).mono ?_; rintro e w1 ⟨rfl, hx1⟩)
  have k := fun o => hx1.cell (p := ⟨w.heap.size, o, none⟩) lB (fun h => h)
  have c0 := (k _).trans b0
  have c1 := (k _).trans b1
  have c2 := (k _).trans b2
  have lB1 : w.heap.size < w1.heap.size := Nat.lt_of_lt_of_le lB hx1.size
  have hX1 := ExtM.trans _ _ _ hx0 hx1
  clear k b0 b1 b2 lB hx0 hx1
  refine Plan.begin Plan.Ext 6 rfl (by kernel_rfl) ?_
  refine Plan.left_q 0 (by rfl) (by kernel_rfl) ?_; go_big_quiet_step (fail); refine wpQuiet_nil ?_
  refine Plan.left_one 1 (by kernel_rfl) (by rfl) (Plan.plain rfl fun K hK => ?_)
  go_wp2_with (fail)
  refine (new_c _).mono ?_
  rintro e w5 ⟨rfl, h5, hmk⟩
  have H5 := ExtM.trans _ _ _ (ExtM.refl _).drew h5
  obtain ⟨hc5, hf5, -⟩ := Ext.rules H5
  have hs5_0 : w.heap.size < w5.heap.size := by have := H5.size; (try simp at this); omega
  go_wp2_with (fail)
  refine hK _ _ h5 ?_
  clear hK K
  refine Plan.left_q 2 (by rfl) (by kernel_rfl) ?_; go_big_quiet_step (fail); refine wpQuiet_nil ?_
  refine Plan.left_one 3 (by kernel_rfl) (by rfl) (Plan.plain rfl fun K hK => ?_)
  go_wp2_with (fail)
  refine hK _ _ ((ExtM.refl _).alloc _) ?_
  clear hK K
  refine Plan.left_q 4 (by rfl) (by kernel_rfl) ?_; go_big_quiet_step (fail); refine wpQuiet_nil ?_
  refine Plan.left_q 5 (by rfl) (by kernel_rfl) ?_; go_big_quiet_step (fail); refine wpQuiet_nil ?_
  refine Plan.left_done (by kernel_rfl) ?_
  go_wp2_with fail
  go_ret2
  have hx6 : Ext w5 (w5.alloc (.cells #[.int .i64 lo, .int .i64 hi, .int .i64 md, .slice none 0 0, .slice none 0 0, .pointer (some ⟨w1.heap.size, 0, none⟩), .int .i64 0] 131)) := (ExtM.refl w5).alloc _
  have hM : w1.heap.size < w5.heap.size := hmk.lt
  have hc : ∀ o v, (#[Value.int .i64 lo, .int .i64 hi, .int .i64 md, .slice none 0 0, .slice none 0 0, .pointer (some ⟨w1.heap.size, 0, none⟩), .int .i64 0] : Array Value)[o]? = some v → (w5.alloc (.cells #[.int .i64 lo, .int .i64 hi, .int .i64 md, .slice none 0 0, .slice none 0 0, .pointer (some ⟨w1.heap.size, 0, none⟩), .int .i64 0] 131)).cell? ⟨w5.heap.size, o, none⟩ = some v := fun o v h =>
    (World.cell?_alloc_at _ _ _ o (by simp)).trans h
  have hf : ∀ o, (w5.alloc (.cells #[.int .i64 lo, .int .i64 hi, .int .i64 md, .slice none 0 0, .slice none 0 0, .pointer (some ⟨w1.heap.size, 0, none⟩), .int .i64 0] 131)).frozen? ⟨w5.heap.size, o, none⟩ = false := fun o => by
    rw [Go.RowKit.frozen?_alloc_cells]; simp [World.frozen?]
  have hrow : ∀ k, (Value.slice none 0 0).ownBlock ≠ some k := fun k e => by cases e
  refine ⟨w5.heap.size, w1.heap.size, rfl, ExtM.trans _ _ _ hX1 (ExtM.trans _ _ _ H5 hx6), by have := hX1.size; omega, hX1.size, ?_⟩
  exact ⟨hc 0 _ rfl, hc 1 _ rfl, hc 2 _ rfl, ⟨hc 3 _ rfl, hf 3, ⟨rfl, .inl ⟨rfl, rfl⟩⟩, List.Pairwise.nil, hrow _⟩, ⟨hc 4 _ rfl, hf 4, ⟨rfl, .inl ⟨rfl, rfl⟩⟩, List.Pairwise.nil, hrow _⟩, hc 5 _ rfl, hc 6 _ rfl, hf 6, hmk.extM hx6 (fun h => h), by omega, hrow _, hrow _, fun k hk => absurd hk (hrow k)⟩
end Go.Proofs.YtmcgnnmffeojpaaGreatDoor
/- A new engine. -/
namespace Go.Proofs.YtmcgnnmffeojpaaGreatDoor
open Go.RowKit Go.Plan

theorem en_born {w : World} {P M : Nat} {lo hi md : Int} {st : JSt} (hJ : JIs w P M (.slice none 0 0) (.slice none 0 0) lo hi md st) (ha : st.a = []) (hb : st.b = []) :
    EIs (w.alloc (.cells #[.int .i64 lo, .int .i64 hi, .int .i64 md, .pointer (some ⟨P, 0, none⟩), .map none, .int .i64 0, .map none, .int .i64 0, .int .i64 0] 87)) w.heap.size P M (.slice none 0 0) (.slice none 0 0) none none [] lo hi md st [] [] 0 0 := by
  have hf : ∀ q, (w.alloc (.cells #[.int .i64 lo, .int .i64 hi, .int .i64 md, .pointer (some ⟨P, 0, none⟩), .map none, .int .i64 0, .map none, .int .i64 0, .int .i64 0] 87)).frozen? ⟨w.heap.size, q, none⟩ = false := fun q => by rw [Go.RowKit.frozen?_alloc_cells]; simp [World.frozen?]
  have hlt : ∀ k, JFoot P M (.slice none 0 0) (.slice none 0 0) k → k < w.heap.size := fun k hk => hJ.foot k hk
  refine ⟨by go_simp, by go_simp, by go_simp, by go_simp, ⟨by go_simp, by go_simp, hf _, hf _, fun _ h => (nomatch h), .inl ⟨rfl, rfl⟩⟩, ⟨by go_simp, hf _, .inl ⟨rfl, rfl⟩, fun _ h => (nomatch h), List.Pairwise.nil, fun _ h => (nomatch h), fun _ h => (nomatch h)⟩,
    RepAll.nil, by go_simp, by go_simp, hf, hJ.ext ((ExtM.refl _).alloc _), fun k hk => ?_, fun k hk => (nomatch hk), by rw [ha]; exact fun _ h => (nomatch h), by rw [hb]; exact fun _ h => (nomatch h)⟩
  have := hlt k hk
  refine ⟨fun e => ?_, fun e => ?_⟩
  · rcases e with e | e
    · omega
    · cases e
  · rcases e with e | e | ⟨_, e, _⟩
    · omega
    · cases e
    · cases e

theorem en_new (lo hi md : Int) (w : World) (hc : checkI lo hi md = 0) :
    Calls Tryz.prog 24 #[.agg #[.int .i64 lo, .int .i64 hi, .int .i64 md]] w fun e w' => ∃ E Bs, e = .returned (.tuple #[.pointer (some ⟨E, 0, none⟩), .nilIface]) ∧ Ext w w' ∧ (∀ k, Bs k → w.heap.size ≤ k) ∧
      EAt w' E Bs lo hi md ⟨[], [], -1099511627777, -1099511627777, 0⟩ [] [] 0 0 := by
  have b0 : (w.alloc (.cells #[.int .i64 lo, .int .i64 hi, .int .i64 md] 32)).cell? ⟨w.heap.size, 0, none⟩ = some (.int .i64 lo) := by go_simp
  have b1 : (w.alloc (.cells #[.int .i64 lo, .int .i64 hi, .int .i64 md] 32)).cell? ⟨w.heap.size, 1, none⟩ = some (.int .i64 hi) := by go_simp
  have b2 : (w.alloc (.cells #[.int .i64 lo, .int .i64 hi, .int .i64 md] 32)).cell? ⟨w.heap.size, 2, none⟩ = some (.int .i64 md) := by go_simp
  have lB : w.heap.size < (w.alloc (.cells #[.int .i64 lo, .int .i64 hi, .int .i64 md] 32)).heap.size := by simp
  have hxa : Ext w (w.alloc (.cells #[.int .i64 lo, .int .i64 hi, .int .i64 md] 32)) := (ExtM.refl _).alloc _
  go_enter Tryz.func24, Tryz.ntmps24
  go_upto_region 1 with fail
  generalize w.alloc (.cells #[.int .i64 lo, .int .i64 hi, .int .i64 md] 32) = w1 at *
  go_upto_region 4 with (go_at_call 48; refine (jnew_c lo hi md _ hc).mono ?_; rintro e w2 ⟨P, M, rfl, hx2, hP, hM, hJ⟩)
  have a0 := (hx2.cell (p := ⟨w.heap.size, 0, none⟩) lB (fun h => h)).trans b0
  have a1 := (hx2.cell (p := ⟨w.heap.size, 1, none⟩) lB (fun h => h)).trans b1
  have a2 := (hx2.cell (p := ⟨w.heap.size, 2, none⟩) lB (fun h => h)).trans b2
  have hs1 := hxa.size
  have hs2 := hx2.size
  go_wp2_with fail
  go_ret2
  refine ⟨_, _, rfl, ExtM.trans _ _ _ hxa (ExtM.trans _ _ _ hx2 ((ExtM.refl _).alloc _)), fun k hk => ?_, P, M, _, _, none, none, [], en_born hJ rfl rfl, rfl⟩
  rcases hk with (hk | hk | hk | hk) | (hk | hk) | (hk | hk | ⟨_, hk, _⟩)
  · omega
  · omega
  · cases hk
  · cases hk
  · omega
  · cases hk
  · omega
  · cases hk
  · cases hk
end Go.Proofs.YtmcgnnmffeojpaaGreatDoor
/- A tale: the plan that it picks. -/
namespace Go.Proofs.YtmcgnnmffeojpaaGreatDoor
open Go.RowKit Go.Plan

def planLo (low : Int) : Int := (pickN low 41 : Nat) - 20
def planHi (low high : Int) : Int := planLo low + (pickN high 30 : Nat)
def planMd (mode : Int) : Int := (pickN mode 4 : Nat)
theorem plan_in (low high mode : Int) : (-20 ≤ planLo low ∧ planLo low ≤ 20) ∧ (planLo low ≤ planHi low high ∧ planHi low high ≤ planLo low + 29) ∧ 0 ≤ planMd mode ∧ planMd mode ≤ 3 := by
  have h1 := pickN_lt low 41 (by decide)
  have h2 := pickN_lt high 30 (by decide)
  have h3 := pickN_lt mode 4 (by decide)
  unfold planHi planLo planMd
  omega
theorem plan_check (low high mode : Int) : checkI (planLo low) (planHi low high) (planMd mode) = 0 := by
  have := plan_in low high mode
  unfold checkI
  rw [if_neg (by omega), if_neg (by omega), if_neg (by omega)]
theorem plan_ok (low high : Int) : PlanOk (planLo low) (planHi low high) := checkI_ok (plan_check low high 0)

set_option maxRecDepth 100000 in
theorem plan_c (low high mode : Int) (w : World) (h1 : I64 low) (h2 : I64 high) (h3 : I64 mode) :
    Calls Tryz.prog 28 #[.int .i64 low, .int .i64 high, .int .i64 mode] w fun e w' => e = .returned (.agg #[.int .i64 (planLo low), .int .i64 (planHi low high), .int .i64 (planMd mode)]) ∧ Ext w w' := by
  have k1 := pickN_lt low 41 (by decide)
  have k2 := pickN_lt high 30 (by decide)
  have k3 := pickN_lt mode 4 (by decide)
  have p1 : ∀ u, Calls Tryz.prog 13 #[.int .i64 low, .int .i64 41] u fun e w' => e = .returned (.int .i64 (pickN low 41 : Nat)) ∧ u = w' := fun u => pick_c low 41 u (by decide) (by decide) h1
  have p2 : ∀ u, Calls Tryz.prog 13 #[.int .i64 high, .int .i64 30] u fun e w' => e = .returned (.int .i64 (pickN high 30 : Nat)) ∧ u = w' := fun u => pick_c high 30 u (by decide) (by decide) h2
  have p3 : ∀ u, Calls Tryz.prog 13 #[.int .i64 mode, .int .i64 4] u fun e w' => e = .returned (.int .i64 (pickN mode 4 : Nat)) ∧ u = w' := fun u => pick_c mode 4 u (by decide) (by decide) h3
  unfold planHi planLo planMd
  generalize pickN low 41 = a at *
  generalize pickN high 30 = b at *
  generalize pickN mode 4 = c at *
  have r1 : wrap64 ((a : Int) - 20) = a - 20 := by unfold wrap64; omega
  have r2 : wrap64 ((a : Int) - 20 + b) = a - 20 + b := by unfold wrap64; omega
  go_enter Tryz.func28, Tryz.ntmps28
  go_wp2_with (go_at_call 13; first | (with_reducible refine (p1 _).mono ?_; rintro e w1 ⟨rfl, rfl⟩) | (with_reducible refine (p2 _).mono ?_; rintro e w1 ⟨rfl, rfl⟩) | (with_reducible refine (p3 _).mono ?_; rintro e w1 ⟨rfl, rfl⟩))
  (try simp only [Exit.inBlock, Exit.then])
  refine bodyPost_ret (results_cell_row rfl _ _ w.heap.size _ _ (0, 0) _ rfl (heap_alloc_new w _) Tryz.underlying32 rfl (by kernel_rfl)) rfl ?_
  exact ⟨rfl, (ExtM.refl _).alloc _⟩
end Go.Proofs.YtmcgnnmffeojpaaGreatDoor
namespace Go.Proofs.YtmcgnnmffeojpaaGreatDoor
open Go.RowKit Go.Plan

/-- How often each came and did not go, zeros kept. -/
def CountsZ (m : List (Out × Value)) (l : List Out) : Prop := ∀ x, (mlook m x).getD (.int .i64 0) = .int .i64 (l.count x)
def rowL (r : Row) : List Value := [.int .i64 r.k, .int .i64 r.t, .int .i64 r.v]
/-- The rows of a side of a tale, in the order of their coming. -/
def TRow (w : World) (b : Nat) (v : Value) (l : List Row) : Prop := w.ownsRow b 56 3 v l.length (l.flatMap rowL)

/-- A tale's own cells. -/
structure TCells (u : World) (T F E : Nat) (lo hi md : Int) (v0 v1 : Value) (x0 x1 : Int) : Prop where
  c0 : u.cell? ⟨T, 0, none⟩ = some (.pointer (some ⟨E, 0, none⟩))
  c1 : u.cell? ⟨T, 1, none⟩ = some (.int .i64 lo)
  c2 : u.cell? ⟨T, 2, none⟩ = some (.int .i64 hi)
  c3 : u.cell? ⟨T, 3, none⟩ = some (.int .i64 md)
  c4 : u.cell? ⟨T, 4, none⟩ = some v0
  c5 : u.cell? ⟨T, 5, none⟩ = some v1
  c6 : u.cell? ⟨T, 6, none⟩ = some (.int .i64 x0)
  c7 : u.cell? ⟨T, 7, none⟩ = some (.int .i64 x1)
  c8 : u.cell? ⟨T, 8, none⟩ = some (.map (some F))
  fz : ∀ q, u.frozen? ⟨T, q, none⟩ = false

set_option maxRecDepth 100000 in
theorem talesnew_c (low high mode : Int) (w : World) (h1 : I64 low) (h2 : I64 high) (h3 : I64 mode) :
    Calls Tryz.prog 8 #[.int .i64 low, .int .i64 high, .int .i64 mode] w fun e w' => ∃ T F E Bs, e = .returned (.pointer (some ⟨T, 0, none⟩)) ∧ Ext w w' ∧
      EAt w' E Bs (planLo low) (planHi low high) (planMd mode) ⟨[], [], -1099511627777, -1099511627777, 0⟩ [] [] 0 0 ∧ TCells w' T F E (planLo low) (planHi low high) (planMd mode) (.slice none 0 0) (.slice none 0 0) (-300) (-300) ∧
      MapIs Tryz.prog 58 encO w' F [] ∧ w.heap.size ≤ T ∧ w.heap.size ≤ F ∧ T ≠ F ∧ ¬ Bs T ∧ ¬ Bs F ∧ ∀ k, Bs k → w.heap.size ≤ k := by
  have hpl := fun u => plan_c low high mode u h1 h2 h3
  have hp := plan_check low high mode
  generalize planLo low = lo at *
  generalize planHi low high = hi at *
  generalize planMd mode = md at *
  have hmm := @run_makeMap Tryz.prog
  go_enter Tryz.func8, Tryz.ntmps8
  go_upto_region 2 with (go_at_call 28; refine (hpl _).mono ?_; rintro e w1 ⟨rfl, hx1⟩)
  have x0 : Ext w1 (w1.alloc (.map #[] 0)) := (ExtM.refl _).alloc _
  have m0 : MapIs Tryz.prog 58 encO (w1.alloc (.map #[] 0)) w1.heap.size ([] : List (Out × Value)) := MapIs.made w1
  have z0 : (w1.alloc (.map #[] 0)).heap.size = w1.heap.size + 1 := by simp
  rw [← z0]
  generalize w1.alloc (.map #[] 0) = wm at *
  have hb : ∀ o v, (#[Value.pointer none, .int .i64 lo, .int .i64 hi, .int .i64 md, .slice none 0 0, .slice none 0 0, .int .i64 (-300), .int .i64 (-300), .map (some w1.heap.size)] : Array Value)[o]? = some v → (wm.alloc (.cells #[Value.pointer none, .int .i64 lo, .int .i64 hi, .int .i64 md, .slice none 0 0, .slice none 0 0, .int .i64 (-300), .int .i64 (-300), .map (some w1.heap.size)] 38)).cell? ⟨wm.heap.size, o, none⟩ = some v := fun o v h =>
    (World.cell?_alloc_at _ _ _ o (by simp)).trans h
  have hf : ∀ o, (wm.alloc (.cells #[Value.pointer none, .int .i64 lo, .int .i64 hi, .int .i64 md, .slice none 0 0, .slice none 0 0, .int .i64 (-300), .int .i64 (-300), .map (some w1.heap.size)] 38)).frozen? ⟨wm.heap.size, o, none⟩ = false := fun o => by
    rw [Go.RowKit.frozen?_alloc_cells]; simp [World.frozen?]
  have x2 : Ext wm (wm.alloc (.cells #[Value.pointer none, .int .i64 lo, .int .i64 hi, .int .i64 md, .slice none 0 0, .slice none 0 0, .int .i64 (-300), .int .i64 (-300), .map (some w1.heap.size)] 38)) := (ExtM.refl _).alloc _
  have b0 := hb 0 (.pointer none) rfl
  have b1 := hb 1 (.int .i64 lo) rfl
  have b2 := hb 2 (.int .i64 hi) rfl
  have b3 := hb 3 (.int .i64 md) rfl
  have b4 := hb 4 (.slice none 0 0) rfl
  have b5 := hb 5 (.slice none 0 0) rfl
  have b6 := hb 6 (.int .i64 (-300)) rfl
  have b7 := hb 7 (.int .i64 (-300)) rfl
  have b8 := hb 8 (.map (some w1.heap.size)) rfl
  clear hb hmm hpl
  generalize wm.alloc (.cells #[Value.pointer none, .int .i64 lo, .int .i64 hi, .int .i64 md, .slice none 0 0, .slice none 0 0, .int .i64 (-300), .int .i64 (-300), .map (some w1.heap.size)] 38) = wt at *
  have lT : wm.heap.size < wt.heap.size := cell_lt' b0
  generalize hT : wm.heap.size = T at *
  have Z0 := Lib.hid z0
  have ZT := Lib.hid hT
  clear z0 hT
  go_upto_region 5 with (go_at_call 24; refine (en_new lo hi md _ hp).mono ?_; rintro e w2 ⟨E, Bs, rfl, hx3, hBs, hat⟩)
  have k := fun o => hx3.cell (p := ⟨T, o, none⟩) lT (fun h => h)
  have a0 := (k 0).trans b0
  have a1 := (k 1).trans b1
  have a2 := (k 2).trans b2
  have a3 := (k 3).trans b3
  have a4 := (k 4).trans b4
  have a5 := (k 5).trans b5
  have a6 := (k 6).trans b6
  have a7 := (k 7).trans b7
  have a8 := (k 8).trans b8
  have hf2 : ∀ q, w2.frozen? ⟨T, q, none⟩ = false := fun q => (hx3.frozen (p := ⟨T, q, none⟩) lT (fun h => h)).trans (hf q)
  have z7 := hf2 0
  have m2 := (m0.of x2 (fun h => h)).of hx3 (fun h => h)
  have l2 := cell_lt' a0
  have hX : Ext w w2 := ExtM.trans _ _ _ hx1 (ExtM.trans _ _ _ x0 (ExtM.trans _ _ _ x2 hx3))
  clear k b0 b1 b2 b3 b4 b5 b6 b7 b8 hf
  go_wp2_with fail
  go_ret
  have hs : ExtM (fun k => k = T) w2 (w2.setCell ⟨T, 0, none⟩ (.pointer (some ⟨E, 0, none⟩))) := ExtM.setCell (M := fun k => k = T) (ExtM.refl _) (p := ⟨T, 0, none⟩) (.inr rfl) _
  have hc : ∀ o, o ≠ 0 → (w2.setCell ⟨T, 0, none⟩ (.pointer (some ⟨E, 0, none⟩))).cell? ⟨T, o, none⟩ = w2.cell? ⟨T, o, none⟩ := fun o ho => World.cell?_setCell_other _ _ _ _ (by intro e; simp only [Addr.mk.injEq, and_true, true_and] at e; omega)
  have q0 := Z0.out
  have q1 := hx1.size
  refine ⟨T, rfl, hX.fresh' hs (fun k hk e => by subst e; omega), w1.heap.size, E, Bs, hat.keep hs (fun k hk e => by have := hBs k hk; omega),
    ⟨World.cell?_setCell_same _ _ _ a0, (hc 1 (by decide)).trans a1, (hc 2 (by decide)).trans a2, (hc 3 (by decide)).trans a3, (hc 4 (by decide)).trans a4, (hc 5 (by decide)).trans a5, (hc 6 (by decide)).trans a6, (hc 7 (by decide)).trans a7, (hc 8 (by decide)).trans a8, fun q => (World.frozen?_setCell _ _ _ _).trans (hf2 q)⟩,
    m2.of hs (by omega), by omega, q1, by omega, fun e => by have := hBs _ e; omega, fun e => by have := hBs _ e; omega, fun k hk => by have := hBs k hk; omega⟩
end Go.Proofs.YtmcgnnmffeojpaaGreatDoor
