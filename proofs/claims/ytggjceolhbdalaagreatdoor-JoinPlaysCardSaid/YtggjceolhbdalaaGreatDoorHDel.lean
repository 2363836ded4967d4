/- slices.IndexFunc, slices.DeleteFunc over held rows, at Side.Drop's closure. -/
import Derived.Test.YtggjceolhbdalaaGreatDoorMeet
namespace Go.Proofs.YtggjceolhbdalaaGreatDoor
open Go.RowKit Go.Plan

def dropB (to : Int) (h : Hd) : Bool := decide (h.r.t ≤ to)
/-- Side.Drop's closure, as a value. -/
def dropFn (B : Nat) : Value := .func (.func 54) #[] #[.pointer (some ⟨B, 0, none⟩)]

set_option maxRecDepth 100000 in
theorem dropFn_c (to : Int) (B : Nat) (h : Hd) (w : World) (hB : w.cell? ⟨B, 0, none⟩ = some (.int .i64 to)) :
    Calls Tryz.prog 54 #[.agg #[.int .i64 h.r.k, .int .i64 h.r.t, .int .i64 h.r.v, .int .i64 h.m], .pointer (some ⟨B, 0, none⟩)] w fun e w' => e = .returned (.bool (dropB to h)) ∧ Ext w w' := by
  have hlt : B < w.heap.size := by
    unfold World.cell? at hB
    split at hB
    · rename_i hb; exact (Array.getElem?_eq_some_iff.1 hb).1
    · cases hB
  go_enter Tryz.func54, Tryz.ntmps54
  go_wp2
  go_ret
  exact ⟨rfl, (ExtM.refl _).alloc _⟩

set_option maxRecDepth 100000 in
set_option maxHeartbeats 4000000 in
theorem indexFunc_c (v : Value) (hs : List Hd) (to : Int) (B : Nat) (w : World) (h : HRow w v hs) (hl : hs.length < 1000000) (hB : w.cell? ⟨B, 0, none⟩ = some (.int .i64 to)) :
    Calls Tryz.prog 66 #[v, dropFn B] w fun e w' => Ext w w' ∧ ((e = .returned (.int .i64 (-1)) ∧ ∀ x ∈ hs, dropB to x = false) ∨ ∃ (k : Nat) (x : Hd), e = .returned (.int .i64 k) ∧ hs[k]? = some x ∧ k < hs.length ∧ dropB to x = true ∧ ∀ y ∈ hs.take k, dropB to y = false) := by
  have hBl : B < w.heap.size := by
    unfold World.cell? at hB
    split at hB
    · rename_i hb; exact (Array.getElem?_eq_some_iff.1 hb).1
    · cases hB
  obtain ⟨p, cap, rfl, -⟩ := own_slice h
  unfold dropFn
  go_enter Tryz.func66, Tryz.ntmps66
  go_wp2
  go_loopg [8] hs.length (fun kx s8 wr => ∃ d : Nat, s8 = .int .i64 (d : Int) ∧ d ≤ hs.length ∧ hs.length - d ≤ kx ∧ Ext w wr ∧ (∀ y ∈ hs.take d, dropB to y = false))
  case atStart => exact ⟨0, rfl, Nat.zero_le _, by omega, ExtM.refl _, fun y hy => by simp at hy⟩
  case round =>
    obtain ⟨d, rfl, hdl, hgk, hx, hall⟩ := hrel
    have hB' := (hx.cell (p := ⟨B, 0, none⟩) hBl (fun h => h)).trans hB
    by_cases hdn : d < hs.length
    · obtain ⟨g, rfl, hgl, ⟨e0, e1, e2, e3, fz⟩⟩ := (h.extF hx).at' d hdn
      have hcl := dropFn_c to B hs[d] wr hB'
      have HT := Lib.hid (List.take_succ_eq_append_getElem hdn)
      have HD := Lib.hid (List.getElem?_eq_getElem hdn)
      generalize hs[d] = x at *
      cases hq : dropB to x with
      | true =>
        rw [hq] at hcl
        go_wp2_with (go_at_call 54; refine hcl.mono ?_; rintro e w1 ⟨rfl, hx1⟩)
        go_ret
        exact ⟨ExtM.trans _ _ _ hx hx1, .inr ⟨d, x, rfl, HD.out, hdn, hq, hall⟩⟩
      | false =>
        rw [hq] at hcl
        go_wp2_with (go_at_call 54; refine hcl.mono ?_; rintro e w1 ⟨rfl, hx1⟩)
        go_roundg (hs.length - (d + 1))
        case measure => omega
        case rel =>
          refine ⟨d + 1, rfl, by omega, Nat.le_refl _, ExtM.trans _ _ _ hx hx1, fun y hy => ?_⟩
          rw [HT.out] at hy
          rcases List.mem_append.1 hy with hy | hy
          · exact hall y hy
          · rw [List.mem_singleton.1 hy]; exact hq
    · go_wp2_with fail
      go_ret
      rw [List.take_of_length_le (by omega)] at hall
      exact ⟨hx, .inl ⟨rfl, hall⟩⟩
end Go.Proofs.YtggjceolhbdalaaGreatDoor
