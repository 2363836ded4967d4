/- The law's own held: the rows of a side against the reference's. -/
import Derived.Test.YtggjceolhbdalaaDoorRAll
import Derived.Test.YtggjceolhbdalaaDoorSideAll
namespace Go.Proofs.YtggjceolhbdalaaDoor
open Go.RowKit Go.Plan

theorem mrow_cells {w : World} {b : Nat} {v : Value} {L : List Hd} (h : MRow w b v L) (x : Nat) (X : Hd) (hx : L[x]? = some X) :
    ∃ g cap, v = .slice (some ⟨g, 0, none⟩) L.length cap ∧ g < w.heap.size ∧ w.cell? ⟨g, x * 4, none⟩ = some (.int .i64 X.r.k) ∧ w.cell? ⟨g, x * 4 + 1, none⟩ = some (.int .i64 X.r.t) ∧ w.cell? ⟨g, x * 4 + 2, none⟩ = some (.int .i64 X.r.v) ∧ w.cell? ⟨g, x * 4 + 3, none⟩ = some (.int .i64 X.m) := by
  obtain ⟨hlt, rfl⟩ := List.getElem?_eq_some_iff.1 hx
  obtain ⟨g, cap, rfl, hg, h0, -⟩ := own_cell (enc := Hd.cells) hd_len h x 0 hlt (by omega)
  have hk : ∀ c, c < 4 → w.cell? ⟨g, x * 4 + c, none⟩ = (L[x].cells)[c]? := fun c hc => by
    obtain ⟨g', cap', e1, -, e2, -⟩ := own_cell (enc := Hd.cells) hd_len h x c hlt hc
    simp only [Value.slice.injEq, Option.some.injEq, Addr.mk.injEq, and_true, true_and] at e1
    rw [e1.1]; exact e2
  exact ⟨g, cap, rfl, hg, hk 0 (by omega), hk 1 (by omega), hk 2 (by omega), hk 3 (by omega)⟩

set_option maxRecDepth 100000 in
set_option maxHeartbeats 4000000 in
theorem held_c (b1 : Nat) (v1 v2 : Value) (ms : List Hd) (R : List RHd) (w : World) (h1 : MRow w b1 v1 ms) (h2 : JRow w 0 v2 R) (he : ms = R.map RHd.hd) (hl : R.length < 1000000) :
    Calls Tryd.prog 32 #[v1, v2] w fun e w' => e = .returned (.bool true) ∧ Ext w w' := by
  subst he
  obtain ⟨p1, c1, rfl, -⟩ := own_slice h1
  obtain ⟨p2, c2, rfl, -⟩ := own_slice h2
  rw [List.length_map] at *
  go_enter Tryd.func32, Tryd.ntmps32
  go_wp2_with fail
  go_loopg [5] (R.length + 1) (fun kx s5 wr => ∃ (i : Nat), s5 = .int .i64 i ∧ i ≤ R.length ∧ R.length - i ≤ kx ∧ Ext w wr)
  case atStart => exact ⟨0, rfl, by omega, by omega, ExtM.refl _⟩
  case round =>
    obtain ⟨i, rfl, hi, hgk, hx⟩ := hrel
    by_cases hlt : i < R.length
    · obtain ⟨g, rc, e1, hg, x0, x1, x2, x3, x4⟩ := rrow_cells (h2.extF hx) i hlt
      simp only [Value.slice.injEq, true_and] at e1
      obtain ⟨rfl, rfl⟩ := e1
      obtain ⟨g', rc', e2, hg', y0, y1, y2, y3⟩ := mrow_cells (own_ext h1 hx (fun _ _ h => h) : MRow wr b1 _ (R.map RHd.hd)) i R[i]!.hd (by rw [List.getElem?_map, List.getElem?_eq_getElem hlt, getElem!_pos R i hlt]; rfl)
      simp only [Value.slice.injEq] at e2
      obtain ⟨rfl, -, rfl⟩ := e2
      simp only [RHd.hd] at y0 y1 y2 y3
      generalize R[i]! = X at *
      go_wp2_with fail
      go_quiet (fail)
      go_wp2_with fail
      go_roundg (R.length - (i + 1))
      case measure => omega
      case rel => exact ⟨i + 1, by go_num, by omega, Nat.le_refl _, hx.drewN _⟩
    · go_wp2_with fail
      go_ret
      exact ⟨rfl, hx⟩
end Go.Proofs.YtggjceolhbdalaaDoor
