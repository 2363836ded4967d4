/- What the join's small functions say, and the reference's. -/
import Derived.Test.YtggjceolhbdalaaGreatDoorJState
namespace Go.Proofs.YtggjceolhbdalaaGreatDoor
open Go.RowKit Go.Plan

set_option maxHeartbeats 1000000 in
theorem tells_c (P : Nat) (md : Int) (s : Nat) (u : World) (hs : s < 2) (c2 : u.cell? ⟨P, 2, none⟩ = some (.int .i64 md)) :
    Calls Tryz.prog 39 #[.pointer (some ⟨P, 0, none⟩), .int .i64 (s : Nat)] u fun e u' => e = .returned (.bool (tellsB md s)) ∧ u = u' := by
  have hs' : s = 0 ∨ s = 1 := by omega
  by_cases h3 : md = 3
  · have d3 : (md == 3) = true := by simp [h3]
    have d1 : (md == 1) = false := by simp [h3]
    have d2 : (md == 2) = false := by simp [h3]
    have e : tellsB md s = true := by unfold tellsB; simp [h3]
    rw [e]; clear h3 e
    rcases hs' with rfl | rfl
    · skip
      go_enter Tryz.func39, Tryz.ntmps39
      go_wp2_with fail
      go_ret
      exact ⟨rfl, rfl⟩
    · skip
      go_enter Tryz.func39, Tryz.ntmps39
      go_wp2_with fail
      go_ret
      exact ⟨rfl, rfl⟩
  · have d3 : (md == 3) = false := by simp [h3]
    rcases hs' with rfl | rfl
    · by_cases h1 : md = 1
      · have d1 : (md == 1) = true := by simp [h1]
        have e : tellsB md 0 = true := by unfold tellsB; simp [h1]
        rw [e]; clear h1 h3 e d3
        go_enter Tryz.func39, Tryz.ntmps39
        go_wp2_with fail
        go_ret
        exact ⟨rfl, rfl⟩
      · have d1 : (md == 1) = false := by simp [h1]
        have e : tellsB md 0 = false := by unfold tellsB; simp [h1, h3]
        rw [e]; clear h1 h3 e
        go_enter Tryz.func39, Tryz.ntmps39
        go_wp2_with fail
        go_ret
        exact ⟨rfl, rfl⟩
    · by_cases h1 : md = 2
      · have d1 : (md == 2) = true := by simp [h1]
        have e : tellsB md 1 = true := by unfold tellsB; simp [h1]
        rw [e]; clear h1 h3 e d3
        go_enter Tryz.func39, Tryz.ntmps39
        go_wp2_with fail
        go_ret
        exact ⟨rfl, rfl⟩
      · have d1 : (md == 2) = false := by simp [h1]
        have e : tellsB md 1 = false := by unfold tellsB; simp [h1, h3]
        rw [e]; clear h1 h3 e
        go_enter Tryz.func39, Tryz.ntmps39
        go_wp2_with fail
        go_ret
        exact ⟨rfl, rfl⟩
set_option maxHeartbeats 1000000 in
theorem told_c (J : Nat) (md : Int) (s : Nat) (u : World) (hs : s < 2) (c2 : u.cell? ⟨J, 2, none⟩ = some (.int .i64 md)) :
    Calls Tryz.prog 29 #[.pointer (some ⟨J, 0, none⟩), .int .i64 (s : Nat)] u fun e u' => e = .returned (.bool (tellsB md s)) ∧ u = u' := by
  have hs' : s = 0 ∨ s = 1 := by omega
  by_cases h3 : md = 3
  · have d3 : (md == 3) = true := by simp [h3]
    have e : tellsB md s = true := by unfold tellsB; simp [h3]
    rw [e]; clear h3 e
    rcases hs' with rfl | rfl
    · skip
      go_enter Tryz.func29, Tryz.ntmps29
      go_wp2_with fail
      go_ret
      exact ⟨rfl, rfl⟩
    · skip
      go_enter Tryz.func29, Tryz.ntmps29
      go_wp2_with fail
      go_ret
      exact ⟨rfl, rfl⟩
  · have d3 : (md == 3) = false := by simp [h3]
    rcases hs' with rfl | rfl
    · by_cases h1 : md = 1
      · have d1 : (md == 1) = true := by simp [h1]
        have e : tellsB md 0 = true := by unfold tellsB; simp [h1]
        rw [e]; clear h1 h3 e
        go_enter Tryz.func29, Tryz.ntmps29
        go_wp2_with fail
        go_ret
        exact ⟨rfl, rfl⟩
      · have d1 : (md == 1) = false := by simp [h1]
        have e : tellsB md 0 = false := by unfold tellsB; simp [h1, h3]
        rw [e]; clear h1 h3 e
        go_enter Tryz.func29, Tryz.ntmps29
        go_wp2_with fail
        go_ret
        exact ⟨rfl, rfl⟩
    · by_cases h1 : md = 2
      · have d1 : (md == 2) = true := by simp [h1]
        have e : tellsB md 1 = true := by unfold tellsB; simp [h1]
        rw [e]; clear h1 h3 e
        go_enter Tryz.func29, Tryz.ntmps29
        go_wp2_with fail
        go_ret
        exact ⟨rfl, rfl⟩
      · have d1 : (md == 2) = false := by simp [h1]
        have e : tellsB md 1 = false := by unfold tellsB; simp [h1, h3]
        rw [e]; clear h1 h3 e
        go_enter Tryz.func29, Tryz.ntmps29
        go_wp2_with fail
        go_ret
        exact ⟨rfl, rfl⟩

/-- A plan's bounds as they may be. -/
def PlanOk (lo hi : Int) : Prop := -1048576 ≤ lo ∧ lo ≤ 1048576 ∧ -1048576 ≤ hi ∧ hi ≤ 1048576
theorem span_c (P : Nat) (lo hi t : Int) (s : Nat) (u : World) (hs : s < 2) (hp : PlanOk lo hi) (ht : -1099511627776 ≤ t ∧ t ≤ 1099511627776) (c0 : u.cell? ⟨P, 0, none⟩ = some (.int .i64 lo)) (c1 : u.cell? ⟨P, 1, none⟩ = some (.int .i64 hi)) :
    Calls Tryz.prog 35 #[.pointer (some ⟨P, 0, none⟩), .int .i64 (s : Nat), .int .i64 t] u fun e u' => e = .returned (.tuple #[.int .i64 (frI lo hi s t), .int .i64 (tilI lo hi s t)]) ∧ Ext u u' := by
  have hs' : s = 0 ∨ s = 1 := by omega
  obtain ⟨p1, p2, p3, p4⟩ := hp
  obtain ⟨t1, t2⟩ := ht
  have lP := lt_of_cell c0
  rcases hs' with rfl | rfl
  · have e1 : frI lo hi 0 t = t + lo := rfl
    have e2 : tilI lo hi 0 t = t + hi := rfl
    rw [e1, e2]
    clear e1 e2
    have w1 : IntKind.i64.wrap (t + lo) = t + lo := by rw [IntKind.wrap_i64]; omega
    have w2 : IntKind.i64.wrap (t + hi) = t + hi := by rw [IntKind.wrap_i64]; omega
    go_enter Tryz.func35, Tryz.ntmps35
    go_wp2_with fail
    go_quiet (fail)
    go_wp2_with fail
    go_ret2
    exact ⟨rfl, (ExtM.refl _).drewN _⟩
  · have e1 : frI lo hi 1 t = t - hi := rfl
    have e2 : tilI lo hi 1 t = t - lo := rfl
    rw [e1, e2]
    clear e1 e2
    have w1 : IntKind.i64.wrap (t - lo) = t - lo := by rw [IntKind.wrap_i64]; omega
    have w2 : IntKind.i64.wrap (t - hi) = t - hi := by rw [IntKind.wrap_i64]; omega
    go_enter Tryz.func35, Tryz.ntmps35
    go_wp2_with fail
    go_quiet (fail)
    go_wp2_with fail
    go_ret2
    exact ⟨rfl, (ExtM.refl _).drewN _⟩
theorem may_c (P : Nat) (lo hi t : Int) (s : Nat) (u : World) (hs : s < 2) (hp : PlanOk lo hi) (ht : -1099511627776 ≤ t ∧ t ≤ 1099511627776) (c0 : u.cell? ⟨P, 0, none⟩ = some (.int .i64 lo)) (c1 : u.cell? ⟨P, 1, none⟩ = some (.int .i64 hi)) :
    Calls Tryz.prog 27 #[.pointer (some ⟨P, 0, none⟩), .int .i64 (s : Nat), .int .i64 t] u fun e u' => e = .returned (.tuple #[.int .i64 (frI lo hi s t), .int .i64 (tilI lo hi s t)]) ∧ Ext u u' := by
  have hs' : s = 0 ∨ s = 1 := by omega
  obtain ⟨p1, p2, p3, p4⟩ := hp
  obtain ⟨t1, t2⟩ := ht
  have lP := lt_of_cell c0
  rcases hs' with rfl | rfl
  · have e1 : frI lo hi 0 t = t + lo := rfl
    have e2 : tilI lo hi 0 t = t + hi := rfl
    rw [e1, e2]
    clear e1 e2
    have w1 : IntKind.i64.wrap (t + lo) = t + lo := by rw [IntKind.wrap_i64]; omega
    have w2 : IntKind.i64.wrap (t + hi) = t + hi := by rw [IntKind.wrap_i64]; omega
    go_enter Tryz.func27, Tryz.ntmps27
    go_wp2_with fail
    go_quiet (fail)
    go_wp2_with fail
    go_ret2
    exact ⟨rfl, (ExtM.refl _).drewN _⟩
  · have e1 : frI lo hi 1 t = t - hi := rfl
    have e2 : tilI lo hi 1 t = t - lo := rfl
    rw [e1, e2]
    clear e1 e2
    have w1 : IntKind.i64.wrap (t - lo) = t - lo := by rw [IntKind.wrap_i64]; omega
    have w2 : IntKind.i64.wrap (t - hi) = t - hi := by rw [IntKind.wrap_i64]; omega
    go_enter Tryz.func27, Tryz.ntmps27
    go_wp2_with fail
    go_quiet (fail)
    go_wp2_with fail
    go_ret2
    exact ⟨rfl, (ExtM.refl _).drewN _⟩

section
variable {u : World} {P M : Nat} {v0 v1 : Value} {lo hi md : Int} {st : JSt}
theorem jmark_c (s : Int) (h : JIs u P M v0 v1 lo hi md st) :
    Calls Tryz.prog 17 #[.pointer (some ⟨P, 0, none⟩), .int .i64 s] u fun e u' => e = .returned (.int .i64 (ofI s st.x st.y)) ∧ u = u' := by
  have c5 := h.c5
  go_enter Tryz.func17, Tryz.ntmps17
  go_wp2_with (go_at_call 36; refine (of_c M s st.x st.y _ h.mks).mono ?_; rintro e w' ⟨rfl, rfl⟩)
  go_ret
  exact ⟨rfl, rfl⟩
theorem jlate_c (h : JIs u P M v0 v1 lo hi md st) :
    Calls Tryz.prog 21 #[.pointer (some ⟨P, 0, none⟩)] u fun e u' => e = .returned (.int .i64 st.late) ∧ u = u' := by
  have c6 := h.c6
  go_enter Tryz.func21, Tryz.ntmps21
  go_wp2_with fail
  go_ret
  exact ⟨rfl, rfl⟩
theorem jheld_c (s : Nat) (hs : s < 2) (h : JIs u P M v0 v1 lo hi md st) :
    Calls Tryz.prog 16 #[.pointer (some ⟨P, 0, none⟩), .int .i64 (s : Nat)] u fun e u' => e = .returned (.int .i64 ((st.of s).length : Nat)) ∧ u = u' := by
  have hs' : s = 0 ∨ s = 1 := by omega
  rcases hs' with rfl | rfl
  · go_enter Tryz.func16, Tryz.ntmps16
    go_wp2_with (go_at_call 37; refine (many_c P 3 v0 st.a _ h.s0).mono ?_; rintro e w' ⟨rfl, rfl⟩)
    go_ret
    exact ⟨rfl, rfl⟩
  · go_enter Tryz.func16, Tryz.ntmps16
    go_wp2_with (go_at_call 37; refine (many_c P 4 v1 st.b _ h.s1).mono ?_; rintro e w' ⟨rfl, rfl⟩)
    go_ret
    exact ⟨rfl, rfl⟩
theorem jrows_c (s : Nat) (hs : s < 2) (h : JIs u P M v0 v1 lo hi md st) (hl : (st.of s).length < 1000000) :
    Calls Tryz.prog 19 #[.pointer (some ⟨P, 0, none⟩), .int .i64 (s : Nat)] u fun e u' => ∃ vo, e = .returned vo ∧ MRow u' u.heap.size vo (st.of s) ∧ Ext u u' := by
  have hs' : s = 0 ∨ s = 1 := by omega
  rcases hs' with rfl | rfl
  · have ha := all_c P 3 v0 st.a _ h.s0 hl
    go_enter Tryz.func19, Tryz.ntmps19
    go_wp2_with (go_at_call 45; refine ha.mono ?_; rintro e w' ⟨vo, rfl, hm, hx⟩; obtain ⟨vp, vc, rfl, -⟩ := own_slice hm)
    go_ret
    exact ⟨_, rfl, hm, hx⟩
  · have ha := all_c P 4 v1 st.b _ h.s1 hl
    go_enter Tryz.func19, Tryz.ntmps19
    go_wp2_with (go_at_call 45; refine ha.mono ?_; rintro e w' ⟨vo, rfl, hm, hx⟩; obtain ⟨vp, vc, rfl, -⟩ := own_slice hm)
    go_ret
    exact ⟨_, rfl, hm, hx⟩
end
end Go.Proofs.YtggjceolhbdalaaGreatDoor
