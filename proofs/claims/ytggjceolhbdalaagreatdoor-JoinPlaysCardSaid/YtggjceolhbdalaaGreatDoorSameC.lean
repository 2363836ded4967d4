/- The law's own sameChanges. -/
import Derived.Test.YtggjceolhbdalaaGreatDoorJFeedL
namespace Go.Proofs.YtggjceolhbdalaaGreatDoor
open Go.RowKit Go.Plan

theorem crow_cells {w : World} {b : Nat} {v : Value} {L : List (Out × Bool)} (h : CRow w b v L) (x : Nat) (X : Out × Bool) (hx : L[x]? = some X) :
    ∃ g cap, v = .slice (some ⟨g, 0, none⟩) L.length cap ∧ g < w.heap.size ∧ ∀ c v, (chgL X)[c]? = some v → w.cell? ⟨g, x * 10 + c, none⟩ = some v := by
  obtain ⟨hlt, rfl⟩ := List.getElem?_eq_some_iff.1 hx
  obtain ⟨g, cap, rfl, hg, h0, -⟩ := own_cell (enc := chgL) chg_len h x 0 hlt (by omega)
  refine ⟨g, cap, rfl, hg, fun c v hv => ?_⟩
  have hc : c < 10 := by
    have := (List.getElem?_eq_some_iff.1 hv).1
    rwa [chg_len] at this
  obtain ⟨g', cap', e1, -, e2, -⟩ := own_cell (enc := chgL) chg_len h x c hlt hc
  simp only [Value.slice.injEq, Option.some.injEq, Addr.mk.injEq, and_true, true_and] at e1
  rw [e1.1]; exact e2.trans hv
theorem neq_chg (a : Out × Bool) (w : World) : (binOp .neq 87 (.agg #[.int .i64 a.1.key, .int .i64 a.1.l.k, .int .i64 a.1.l.t, .int .i64 a.1.l.v, .int .i64 a.1.r.k, .int .i64 a.1.r.t, .int .i64 a.1.r.v, .bool a.1.hl, .bool a.1.hr, .bool a.2]) (.agg #[.int .i64 a.1.key, .int .i64 a.1.l.k, .int .i64 a.1.l.t, .int .i64 a.1.l.v, .int .i64 a.1.r.k, .int .i64 a.1.r.t, .int .i64 a.1.r.v, .bool a.1.hl, .bool a.1.hr, .bool a.2])).run Tryz.prog w = .ok (.bool false) w := by
  obtain ⟨⟨a1, ⟨a2, a3, a4⟩, ⟨a5, a6, a7⟩, a8, a9⟩, a10⟩ := a
  go_simp

set_option maxRecDepth 100000 in
set_option maxHeartbeats 4000000 in
theorem sameChanges_c (b1 b2 : Nat) (v1 v2 : Value) (L : List (Out × Bool)) (w : World) (h1 : CRow w b1 v1 L) (h2 : CRow w b2 v2 L) (hl : L.length < 1000000) :
    Calls Tryz.prog 11 #[v1, v2] w fun e w' => e = .returned (.bool true) ∧ Ext w w' := by
  obtain ⟨p1, c1, rfl, -⟩ := own_slice h1
  obtain ⟨p2, c2, rfl, -⟩ := own_slice h2
  go_enter Tryz.func11, Tryz.ntmps11
  go_wp2_with fail
  go_loopg [5] (L.length + 1) (fun kx s5 wr => ∃ (i : Nat), s5 = .int .i64 i ∧ i ≤ L.length ∧ L.length - i ≤ kx ∧ Ext w wr)
  case atStart => exact ⟨0, rfl, by omega, by omega, ExtM.refl _⟩
  case round =>
    obtain ⟨i, rfl, hi, hgk, hx⟩ := hrel
    by_cases hlt : i < L.length
    · obtain ⟨g, rc, e1, hg, hc⟩ := crow_cells (h1.of hx) i L[i] (List.getElem?_eq_getElem hlt)
      simp only [Value.slice.injEq, true_and] at e1
      obtain ⟨rfl, rfl⟩ := e1
      obtain ⟨g', rc', e2, hg', hc'⟩ := crow_cells (h2.of hx) i L[i] (List.getElem?_eq_getElem hlt)
      simp only [Value.slice.injEq, true_and] at e2
      obtain ⟨rfl, rfl⟩ := e2
      generalize L[i] = X at *
      have x0 := hc 0 _ rfl
      have x1 := hc 1 _ rfl
      have x2 := hc 2 _ rfl
      have x3 := hc 3 _ rfl
      have x4 := hc 4 _ rfl
      have x5 := hc 5 _ rfl
      have x6 := hc 6 _ rfl
      have x7 := hc 7 _ rfl
      have x8 := hc 8 _ rfl
      have x9 := hc 9 _ rfl
      have y0 := hc' 0 _ rfl
      have y1 := hc' 1 _ rfl
      have y2 := hc' 2 _ rfl
      have y3 := hc' 3 _ rfl
      have y4 := hc' 4 _ rfl
      have y5 := hc' 5 _ rfl
      have y6 := hc' 6 _ rfl
      have y7 := hc' 7 _ rfl
      have y8 := hc' 8 _ rfl
      have y9 := hc' 9 _ rfl
      simp only [Nat.add_zero] at x0 y0
      have hne := fun u => neq_chg X u
      clear hc hc'
      go_wp2_with fail
      refine Plan.begin Plan.Ext 9 rfl (by kernel_rfl) ?_
      refine Plan.left_q 0 (by rfl) (by kernel_rfl) ?_; go_big_quiet_step (fail); refine wpQuiet_nil ?_
      refine Plan.left_q 1 (by rfl) (by kernel_rfl) ?_; go_big_quiet_step (fail); refine wpQuiet_nil ?_
      refine Plan.left_q 2 (by rfl) (by kernel_rfl) ?_; go_big_quiet_step (fail); refine wpQuiet_nil ?_
      refine Plan.left_q 3 (by rfl) (by kernel_rfl) ?_; go_big_quiet_step (fail); refine wpQuiet_nil ?_
      refine Plan.left_q 4 (by rfl) (by kernel_rfl) ?_; go_big_quiet_step (fail); refine wpQuiet_nil ?_
      refine Plan.left_q 5 (by rfl) (by kernel_rfl) ?_; go_big_quiet_step (fail); refine wpQuiet_nil ?_
      refine Plan.left_q 6 (by rfl) (by kernel_rfl) ?_; go_big_quiet_step (fail); refine wpQuiet_nil ?_
      refine Plan.left_q 7 (by rfl) (by kernel_rfl) ?_; go_big_quiet_step (fail); refine wpQuiet_nil ?_
      refine Plan.left_q 8 (by rfl) (by kernel_rfl) ?_; go_big_quiet_step (fail); refine wpQuiet_nil ?_
      refine Plan.left_done (by kernel_rfl) ?_
      go_wp2_with fail
      go_roundg (L.length - (i + 1))
      case measure => omega
      case rel => exact ⟨i + 1, by go_num, by omega, Nat.le_refl _, hx.drew⟩
    · have hz : decide ((i : Int) < (L.length : Int)) = false := by simp; omega
      go_wp2_with fail
      go_ret
      exact ⟨rfl, hx⟩
end Go.Proofs.YtggjceolhbdalaaGreatDoor
