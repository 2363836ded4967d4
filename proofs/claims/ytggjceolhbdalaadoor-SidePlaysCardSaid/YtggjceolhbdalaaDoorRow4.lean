/- What the functions of the packages row and estuaryref (1.1) compute: contracts of each, the last part. -/
import Derived.Test.YtggjceolhbdalaaDoorRow3
namespace Go.Proofs.YtggjceolhbdalaaDoor
open Go.RowKit Go.Plan

def rcompareOutI (a b : Out) : Int := ordI (outI a) (outI b)

theorem rcompareOut_c (a b : Out) (w : World) :
    Calls Tryd.prog 47 #[.agg #[.int .i64 a.key, .int .i64 a.l.k, .int .i64 a.l.t, .int .i64 a.l.v, .int .i64 a.r.k, .int .i64 a.r.t, .int .i64 a.r.v, .bool a.hl, .bool a.hr], .agg #[.int .i64 b.key, .int .i64 b.l.k, .int .i64 b.l.t, .int .i64 b.l.v, .int .i64 b.r.k, .int .i64 b.r.t, .int .i64 b.r.v, .bool b.hl, .bool b.hr]] w fun e w' =>
      e = .returned (.int .i64 (rcompareOutI a b)) ∧ Ext w w' := by
  unfold rcompareOutI
  go_enter Tryd.func47, Tryd.ntmps47
  go_wp2_with fail
  refine Plan.begin Plan.Ext 8 rfl (by kernel_rfl) ?_
  refine Plan.left_q 0 (by rfl) (by kernel_rfl) ?_; go_big_quiet_step (fail); refine wpQuiet_nil ?_
  refine Plan.left_q 1 (by rfl) (by kernel_rfl) ?_; go_big_quiet_step (fail); refine wpQuiet_nil ?_
  refine Plan.left_q 3 (by rfl) (by kernel_rfl) ?_; go_big_quiet_step (fail); refine wpQuiet_nil ?_
  refine Plan.left_q 4 (by rfl) (by kernel_rfl) ?_; go_big_quiet_step (fail); refine wpQuiet_nil ?_
  refine Plan.left_one 2 (by kernel_rfl) (by rfl) (Plan.plain rfl fun K hK => ?_)
  go_wp2_with (fail)
  refine (rcompareOut1_c a _).mono ?_
  rintro e w1 ⟨b1, c1, rfl, i1, l1, lt1, h1⟩
  go_wp2_with (fail)
  refine hK _ _ h1 ?_
  clear hK K
  refine Plan.left_one 5 (by kernel_rfl) (by rfl) (Plan.plain rfl fun K hK => ?_)
  go_wp2_with (fail)
  refine (rcompareOut1_c b _).mono ?_
  rintro e w2 ⟨b2, c2, rfl, i2, l2, lt2, h2⟩
  go_wp2_with (fail)
  refine hK _ _ h2 ?_
  clear hK K
  refine Plan.left_one 6 (by kernel_rfl) (by rfl) (Plan.plain rfl fun K hK => ?_)
  go_wp2_with (fail)
  refine (order_c (outI a) (outI b) _ _ _ _ _ _ _ (intsAt_ext i1 h2 lt1) i2 rfl (by simp [outI])).mono ?_
  rintro e w' ⟨rfl, n, rfl⟩
  go_wp2_with (fail)
  refine hK _ _ ((ExtM.refl _).drewN _) ?_
  clear hK K
  refine Plan.left_q 7 (by rfl) (by kernel_rfl) ?_; go_big_quiet_step (fail); refine wpQuiet_nil ?_
  refine Plan.left_done (by kernel_rfl) ?_
  go_wp2
  go_ret
  exact ⟨rfl, (ExtM.trans _ _ _ (ExtM.trans _ _ _ (((ExtM.refl _).alloc _).alloc _).drew h1) h2).drewN _⟩

/-! ### Good -/
def inB (n : Int) : Bool := decide (-1099511627776 ≤ n ∧ n ≤ 1099511627776)

theorem inB_c (n : Int) (w : World) : Calls Tryd.prog 78 #[.int .i64 n] w fun e w' => e = .returned (.bool (inB n)) ∧ w = w' := by
  by_cases h1 : -1099511627776 ≤ n
  · by_cases h2 : n ≤ 1099511627776
    · have e1 : inB n = true := by simp [inB, h1, h2]
      rw [e1]
      go_enter Tryd.func78, Tryd.ntmps78
      go_wp2
      go_ret
      exact ⟨ret_bool (by first | (simp; done) | (simp; omega)), rfl⟩
    · have e1 : inB n = false := by simp [inB]; omega
      rw [e1]
      go_enter Tryd.func78, Tryd.ntmps78
      go_wp2
      go_ret
      exact ⟨ret_bool (by first | (simp; done) | (simp; omega)), rfl⟩
  · have e1 : inB n = false := by simp [inB]; omega
    rw [e1]
    go_enter Tryd.func78, Tryd.ntmps78
    go_wp2
    go_ret
    exact ⟨ret_bool (by first | (simp; done) | (simp; omega)), rfl⟩

theorem rin_c (n lo hi : Int) (w : World) : Calls Tryd.prog 51 #[.int .i64 n, .int .i64 lo, .int .i64 hi] w fun e w' => e = .returned (.bool (decide (lo ≤ n ∧ n ≤ hi))) ∧ w = w' := by
  by_cases h1 : lo ≤ n
  · by_cases h2 : n ≤ hi
    · have e1 : decide (lo ≤ n ∧ n ≤ hi) = true := by simp [h1, h2]
      rw [e1]
      go_enter Tryd.func51, Tryd.ntmps51
      go_wp2
      go_ret
      exact ⟨ret_bool (by first | (simp; done) | (simp; omega)), rfl⟩
    · have e1 : decide (lo ≤ n ∧ n ≤ hi) = false := by simp; omega
      rw [e1]
      go_enter Tryd.func51, Tryd.ntmps51
      go_wp2
      go_ret
      exact ⟨ret_bool (by first | (simp; done) | (simp; omega)), rfl⟩
  · have e1 : decide (lo ≤ n ∧ n ≤ hi) = false := by simp; omega
    rw [e1]
    go_enter Tryd.func51, Tryd.ntmps51
    go_wp2
    go_ret
    exact ⟨ret_bool (by first | (simp; done) | (simp; omega)), rfl⟩

def goodB (k t v : Int) : Bool := inB k && inB t && inB v

theorem good_c (k t v : Int) (w : World) : Calls Tryd.prog 48 #[.agg #[.int .i64 k, .int .i64 t, .int .i64 v]] w fun e w' => e = .returned (.bool (goodB k t v)) ∧ Ext w w' := by
  unfold goodB
  generalize hk : inB k = bk
  generalize ht : inB t = bt
  generalize hv : inB v = bv
  have ck := fun w => hk ▸ inB_c k w
  have ct := fun w => ht ▸ inB_c t w
  have cv := fun w => hv ▸ inB_c v w
  clear hk ht hv
  have Ck : Hid (∀ w, Calls Tryd.prog 78 #[.int .i64 k] w fun e w' => e = .returned (.bool bk) ∧ w = w') := ck
  have Ct : Hid (∀ w, Calls Tryd.prog 78 #[.int .i64 t] w fun e w' => e = .returned (.bool bt) ∧ w = w') := ct
  have Cv : Hid (∀ w, Calls Tryd.prog 78 #[.int .i64 v] w fun e w' => e = .returned (.bool bv) ∧ w = w') := cv
  clear ck ct cv
  cases bk
  · go_enter Tryd.func48, Tryd.ntmps48
    go_wp2_with (go_at_call 78; refine (Ck.out _).mono ?_; rintro e w' ⟨rfl, rfl⟩)
    go_ret
    exact ⟨rfl, (ExtM.refl _).alloc _⟩
  · cases bt
    · go_enter Tryd.func48, Tryd.ntmps48
      go_wp2_with fail
      refine (Ck.out _).mono ?_; rintro e w' ⟨rfl, rfl⟩
      go_wp2_with fail
      refine (Ct.out _).mono ?_; rintro e w' ⟨rfl, rfl⟩
      go_wp2_with fail
      go_ret
      exact ⟨rfl, (ExtM.refl _).alloc _⟩
    · go_enter Tryd.func48, Tryd.ntmps48
      go_wp2_with fail
      refine (Ck.out _).mono ?_; rintro e w' ⟨rfl, rfl⟩
      go_wp2_with fail
      refine (Ct.out _).mono ?_; rintro e w' ⟨rfl, rfl⟩
      go_wp2_with fail
      refine (Cv.out _).mono ?_; rintro e w' ⟨rfl, rfl⟩
      go_wp2_with fail
      go_ret
      exact ⟨ret_bool (by simp), (ExtM.refl _).alloc _⟩

theorem rgood_c (k t v : Int) (w : World) : Calls Tryd.prog 52 #[.agg #[.int .i64 k, .int .i64 t, .int .i64 v]] w fun e w' => e = .returned (.bool (goodB k t v)) ∧ Ext w w' := by
  unfold goodB
  generalize hk : inB k = bk
  generalize ht : inB t = bt
  generalize hv : inB v = bv
  unfold inB at hk ht hv
  have ck := fun w => hk ▸ rin_c k (-1099511627776) 1099511627776 w
  have ct := fun w => ht ▸ rin_c t (-1099511627776) 1099511627776 w
  have cv := fun w => hv ▸ rin_c v (-1099511627776) 1099511627776 w
  clear hk ht hv
  have Ck : Hid (∀ w, Calls Tryd.prog 51 #[.int .i64 k, .int .i64 (-1099511627776), .int .i64 1099511627776] w fun e w' => e = .returned (.bool bk) ∧ w = w') := ck
  have Ct : Hid (∀ w, Calls Tryd.prog 51 #[.int .i64 t, .int .i64 (-1099511627776), .int .i64 1099511627776] w fun e w' => e = .returned (.bool bt) ∧ w = w') := ct
  have Cv : Hid (∀ w, Calls Tryd.prog 51 #[.int .i64 v, .int .i64 (-1099511627776), .int .i64 1099511627776] w fun e w' => e = .returned (.bool bv) ∧ w = w') := cv
  clear ck ct cv
  cases bk
  · go_enter Tryd.func52, Tryd.ntmps52
    go_wp2_with (go_at_call 51; refine (Ck.out _).mono ?_; rintro e w' ⟨rfl, rfl⟩)
    go_ret
    exact ⟨rfl, (ExtM.refl _).alloc _⟩
  · cases bt
    · go_enter Tryd.func52, Tryd.ntmps52
      go_wp2_with fail
      refine (Ck.out _).mono ?_; rintro e w' ⟨rfl, rfl⟩
      go_wp2_with fail
      refine (Ct.out _).mono ?_; rintro e w' ⟨rfl, rfl⟩
      go_wp2_with fail
      go_ret
      exact ⟨rfl, (ExtM.refl _).alloc _⟩
    · go_enter Tryd.func52, Tryd.ntmps52
      go_wp2_with fail
      refine (Ck.out _).mono ?_; rintro e w' ⟨rfl, rfl⟩
      go_wp2_with fail
      refine (Ct.out _).mono ?_; rintro e w' ⟨rfl, rfl⟩
      go_wp2_with fail
      refine (Cv.out _).mono ?_; rintro e w' ⟨rfl, rfl⟩
      go_wp2_with fail
      go_ret
      exact ⟨ret_bool (by simp), (ExtM.refl _).alloc _⟩

/-! ### Pair, Lone -/
def loneO (s : Int) (r : Row) : Out := if s = 0 then ⟨r.k, r, ⟨0, 0, 0⟩, true, false⟩ else ⟨r.k, ⟨0, 0, 0⟩, r, false, true⟩

def meetsB (lo hi lk lt rk rt : Int) : Bool := decide (lk = rk) && (decide (lo ≤ wrap64 (rt - lt)) && decide (wrap64 (rt - lt) ≤ hi))

end Go.Proofs.YtggjceolhbdalaaDoor
