/- What the functions of the packages row and estuaryref (1.1) compute: contracts of each, the last part. -/
import Derived.Test.YtmdgobfghieneaaRow3
namespace Go.Proofs.Ytmdgobfghieneaa
open Go.RowKit Go.Plan

def rcompareOutI (a b : Out) : Int := ordI (outI a) (outI b)

theorem rcompareOut_c (a b : Out) (w : World) :
    Calls Try.prog 15 #[.agg #[.int .i64 a.key, .int .i64 a.l.k, .int .i64 a.l.t, .int .i64 a.l.v, .int .i64 a.r.k, .int .i64 a.r.t, .int .i64 a.r.v, .bool a.hl, .bool a.hr], .agg #[.int .i64 b.key, .int .i64 b.l.k, .int .i64 b.l.t, .int .i64 b.l.v, .int .i64 b.r.k, .int .i64 b.r.t, .int .i64 b.r.v, .bool b.hl, .bool b.hr]] w fun e w' =>
      e = .returned (.int .i64 (rcompareOutI a b)) ∧ Ext w w' := by
  unfold rcompareOutI
  go_enter Try.func15, Try.ntmps15
  go_wp2_with fail
  refine Plan.begin Plan.Ext 8 rfl (by kernel_rfl) ?_
  refine Plan.left_q 0 (by rfl) (by kernel_rfl) ?_; go_big_quiet_step (fail); refine wpQuiet_nil ?_
  refine Plan.left_q 1 (by rfl) (by kernel_rfl) ?_; go_big_quiet_step (fail); refine wpQuiet_nil ?_
  refine Plan.left_q 3 (by rfl) (by kernel_rfl) ?_; go_big_quiet_step (fail); refine wpQuiet_nil ?_
  refine Plan.left_q 4 (by rfl) (by kernel_rfl) ?_; go_big_quiet_step (fail); refine wpQuiet_nil ?_
  refine Plan.left_one 2 (by kernel_rfl) (by rfl) (Plan.plain rfl fun K hK => ?_)
  go_wp2_with (fail)
  refine (rcompareOut1_c a _).mono ?_
  rintro e w1 ⟨b1, c1, rfl, i1, l1, lt1, h1⟩
  go_wp2_with (fail)
  refine hK _ _ h1 ?_
  clear hK K
  refine Plan.left_one 5 (by kernel_rfl) (by rfl) (Plan.plain rfl fun K hK => ?_)
  go_wp2_with (fail)
  refine (rcompareOut1_c b _).mono ?_
  rintro e w2 ⟨b2, c2, rfl, i2, l2, lt2, h2⟩
  go_wp2_with (fail)
  refine hK _ _ h2 ?_
  clear hK K
  refine Plan.left_one 6 (by kernel_rfl) (by rfl) (Plan.plain rfl fun K hK => ?_)
  go_wp2_with (fail)
  refine (order_c (outI a) (outI b) _ _ _ _ _ _ _ (intsAt_ext i1 h2 lt1) i2 rfl (by simp [outI])).mono ?_
  rintro e w' ⟨rfl, n, rfl⟩
  go_wp2_with (fail)
  refine hK _ _ ((ExtM.refl _).drewN _) ?_
  clear hK K
  refine Plan.left_q 7 (by rfl) (by kernel_rfl) ?_; go_big_quiet_step (fail); refine wpQuiet_nil ?_
  refine Plan.left_done (by kernel_rfl) ?_
  go_wp2
  go_ret
  exact ⟨rfl, (ExtM.trans _ _ _ (ExtM.trans _ _ _ (((ExtM.refl _).alloc _).alloc _).drew h1) h2).drewN _⟩

/-! ### Good -/
def inB (n : Int) : Bool := decide (-1099511627776 ≤ n ∧ n ≤ 1099511627776)

theorem inB_c (n : Int) (w : World) : Calls Try.prog 28 #[.int .i64 n] w fun e w' => e = .returned (.bool (inB n)) ∧ w = w' := by
  by_cases h1 : -1099511627776 ≤ n
  · by_cases h2 : n ≤ 1099511627776
    · have e1 : inB n = true := by simp [inB, h1, h2]
      rw [e1]
      go_enter Try.func28, Try.ntmps28
      go_wp2
      go_ret
      exact ⟨ret_bool (by first | (simp; done) | (simp; omega)), rfl⟩
    · have e1 : inB n = false := by simp [inB]; omega
      rw [e1]
      go_enter Try.func28, Try.ntmps28
      go_wp2
      go_ret
      exact ⟨ret_bool (by first | (simp; done) | (simp; omega)), rfl⟩
  · have e1 : inB n = false := by simp [inB]; omega
    rw [e1]
    go_enter Try.func28, Try.ntmps28
    go_wp2
    go_ret
    exact ⟨ret_bool (by first | (simp; done) | (simp; omega)), rfl⟩

theorem rin_c (n lo hi : Int) (w : World) : Calls Try.prog 29 #[.int .i64 n, .int .i64 lo, .int .i64 hi] w fun e w' => e = .returned (.bool (decide (lo ≤ n ∧ n ≤ hi))) ∧ w = w' := by
  by_cases h1 : lo ≤ n
  · by_cases h2 : n ≤ hi
    · have e1 : decide (lo ≤ n ∧ n ≤ hi) = true := by simp [h1, h2]
      rw [e1]
      go_enter Try.func29, Try.ntmps29
      go_wp2
      go_ret
      exact ⟨ret_bool (by first | (simp; done) | (simp; omega)), rfl⟩
    · have e1 : decide (lo ≤ n ∧ n ≤ hi) = false := by simp; omega
      rw [e1]
      go_enter Try.func29, Try.ntmps29
      go_wp2
      go_ret
      exact ⟨ret_bool (by first | (simp; done) | (simp; omega)), rfl⟩
  · have e1 : decide (lo ≤ n ∧ n ≤ hi) = false := by simp; omega
    rw [e1]
    go_enter Try.func29, Try.ntmps29
    go_wp2
    go_ret
    exact ⟨ret_bool (by first | (simp; done) | (simp; omega)), rfl⟩

def goodB (k t v : Int) : Bool := inB k && inB t && inB v

theorem good_c (k t v : Int) (w : World) : Calls Try.prog 8 #[.agg #[.int .i64 k, .int .i64 t, .int .i64 v]] w fun e w' => e = .returned (.bool (goodB k t v)) ∧ Ext w w' := by
  unfold goodB
  generalize hk : inB k = bk
  generalize ht : inB t = bt
  generalize hv : inB v = bv
  have ck := fun w => hk ▸ inB_c k w
  have ct := fun w => ht ▸ inB_c t w
  have cv := fun w => hv ▸ inB_c v w
  clear hk ht hv
  have Ck : Hid (∀ w, Calls Try.prog 28 #[.int .i64 k] w fun e w' => e = .returned (.bool bk) ∧ w = w') := ck
  have Ct : Hid (∀ w, Calls Try.prog 28 #[.int .i64 t] w fun e w' => e = .returned (.bool bt) ∧ w = w') := ct
  have Cv : Hid (∀ w, Calls Try.prog 28 #[.int .i64 v] w fun e w' => e = .returned (.bool bv) ∧ w = w') := cv
  clear ck ct cv
  cases bk
  · go_enter Try.func8, Try.ntmps8
    go_wp2_with (go_at_call 28; refine (Ck.out _).mono ?_; rintro e w' ⟨rfl, rfl⟩)
    go_ret
    exact ⟨rfl, (ExtM.refl _).alloc _⟩
  · cases bt
    · go_enter Try.func8, Try.ntmps8
      go_wp2_with fail
      refine (Ck.out _).mono ?_; rintro e w' ⟨rfl, rfl⟩
      go_wp2_with fail
      refine (Ct.out _).mono ?_; rintro e w' ⟨rfl, rfl⟩
      go_wp2_with fail
      go_ret
      exact ⟨rfl, (ExtM.refl _).alloc _⟩
    · go_enter Try.func8, Try.ntmps8
      go_wp2_with fail
      refine (Ck.out _).mono ?_; rintro e w' ⟨rfl, rfl⟩
      go_wp2_with fail
      refine (Ct.out _).mono ?_; rintro e w' ⟨rfl, rfl⟩
      go_wp2_with fail
      refine (Cv.out _).mono ?_; rintro e w' ⟨rfl, rfl⟩
      go_wp2_with fail
      go_ret
      exact ⟨ret_bool (by simp), (ExtM.refl _).alloc _⟩

theorem rgood_c (k t v : Int) (w : World) : Calls Try.prog 9 #[.agg #[.int .i64 k, .int .i64 t, .int .i64 v]] w fun e w' => e = .returned (.bool (goodB k t v)) ∧ Ext w w' := by
  unfold goodB
  generalize hk : inB k = bk
  generalize ht : inB t = bt
  generalize hv : inB v = bv
  unfold inB at hk ht hv
  have ck := fun w => hk ▸ rin_c k (-1099511627776) 1099511627776 w
  have ct := fun w => ht ▸ rin_c t (-1099511627776) 1099511627776 w
  have cv := fun w => hv ▸ rin_c v (-1099511627776) 1099511627776 w
  clear hk ht hv
  have Ck : Hid (∀ w, Calls Try.prog 29 #[.int .i64 k, .int .i64 (-1099511627776), .int .i64 1099511627776] w fun e w' => e = .returned (.bool bk) ∧ w = w') := ck
  have Ct : Hid (∀ w, Calls Try.prog 29 #[.int .i64 t, .int .i64 (-1099511627776), .int .i64 1099511627776] w fun e w' => e = .returned (.bool bt) ∧ w = w') := ct
  have Cv : Hid (∀ w, Calls Try.prog 29 #[.int .i64 v, .int .i64 (-1099511627776), .int .i64 1099511627776] w fun e w' => e = .returned (.bool bv) ∧ w = w') := cv
  clear ck ct cv
  cases bk
  · go_enter Try.func9, Try.ntmps9
    go_wp2_with (go_at_call 29; refine (Ck.out _).mono ?_; rintro e w' ⟨rfl, rfl⟩)
    go_ret
    exact ⟨rfl, (ExtM.refl _).alloc _⟩
  · cases bt
    · go_enter Try.func9, Try.ntmps9
      go_wp2_with fail
      refine (Ck.out _).mono ?_; rintro e w' ⟨rfl, rfl⟩
      go_wp2_with fail
      refine (Ct.out _).mono ?_; rintro e w' ⟨rfl, rfl⟩
      go_wp2_with fail
      go_ret
      exact ⟨rfl, (ExtM.refl _).alloc _⟩
    · go_enter Try.func9, Try.ntmps9
      go_wp2_with fail
      refine (Ck.out _).mono ?_; rintro e w' ⟨rfl, rfl⟩
      go_wp2_with fail
      refine (Ct.out _).mono ?_; rintro e w' ⟨rfl, rfl⟩
      go_wp2_with fail
      refine (Cv.out _).mono ?_; rintro e w' ⟨rfl, rfl⟩
      go_wp2_with fail
      go_ret
      exact ⟨ret_bool (by simp), (ExtM.refl _).alloc _⟩

/-! ### Pair, Lone -/
theorem pair_c (k1 t1 v1 k2 t2 v2 : Int) (w : World) :
    Calls Try.prog 12 #[.agg #[.int .i64 k1, .int .i64 t1, .int .i64 v1], .agg #[.int .i64 k2, .int .i64 t2, .int .i64 v2]] w fun e w' =>
      e = .returned (.agg #[.int .i64 k1, .int .i64 k1, .int .i64 t1, .int .i64 v1, .int .i64 k2, .int .i64 t2, .int .i64 v2, .bool true, .bool true]) ∧ Ext w w' := by
  go_enter Try.func12, Try.ntmps12
  go_wp2
  refine bodyPost_ret (v := .agg #[.int .i64 k1, .int .i64 k1, .int .i64 t1, .int .i64 v1, .int .i64 k2, .int .i64 t2, .int .i64 v2, .bool true, .bool true]) (by simp [results, Try.results12, go_sem]) rfl ⟨rfl, ?_⟩
  exact (((ExtM.refl _).alloc _).alloc _).alloc _

theorem rpair_c (k1 t1 v1 k2 t2 v2 : Int) (w : World) :
    Calls Try.prog 13 #[.agg #[.int .i64 k1, .int .i64 t1, .int .i64 v1], .agg #[.int .i64 k2, .int .i64 t2, .int .i64 v2]] w fun e w' =>
      e = .returned (.agg #[.int .i64 k1, .int .i64 k1, .int .i64 t1, .int .i64 v1, .int .i64 k2, .int .i64 t2, .int .i64 v2, .bool true, .bool true]) ∧ Ext w w' := by
  go_enter Try.func13, Try.ntmps13
  go_wp2
  refine bodyPost_ret (v := .agg #[.int .i64 k1, .int .i64 k1, .int .i64 t1, .int .i64 v1, .int .i64 k2, .int .i64 t2, .int .i64 v2, .bool true, .bool true]) (by simp [results, Try.results13, go_sem]) rfl ⟨rfl, ?_⟩
  exact (((ExtM.refl _).alloc _).alloc _).alloc _

def loneO (s : Int) (r : Row) : Out := if s = 0 then ⟨r.k, r, ⟨0, 0, 0⟩, true, false⟩ else ⟨r.k, ⟨0, 0, 0⟩, r, false, true⟩

theorem lone_c (s k t v : Int) (w : World) :
    Calls Try.prog 16 #[.int .i64 s, .agg #[.int .i64 k, .int .i64 t, .int .i64 v]] w fun e w' =>
      e = .returned (if s = 0 then .agg #[.int .i64 k, .int .i64 k, .int .i64 t, .int .i64 v, .int .i64 0, .int .i64 0, .int .i64 0, .bool true, .bool false] else .agg #[.int .i64 k, .int .i64 0, .int .i64 0, .int .i64 0, .int .i64 k, .int .i64 t, .int .i64 v, .bool false, .bool true]) ∧ Ext w w' := by
  by_cases hs : s = 0
  · rw [if_pos hs]
    subst hs
    go_enter Try.func16, Try.ntmps16
    go_wp2
    refine bodyPost_ret (v := .agg #[.int .i64 k, .int .i64 k, .int .i64 t, .int .i64 v, .int .i64 0, .int .i64 0, .int .i64 0, .bool true, .bool false]) (by simp [results, Try.results16, go_sem]) rfl ⟨rfl, ?_⟩
    exact ((ExtM.refl _).alloc _).alloc _
  · rw [if_neg hs]
    have hs' : (s == 0) = false := by simpa using hs
    go_enter Try.func16, Try.ntmps16
    go_wp2
    refine bodyPost_ret (v := .agg #[.int .i64 k, .int .i64 0, .int .i64 0, .int .i64 0, .int .i64 k, .int .i64 t, .int .i64 v, .bool false, .bool true]) (by simp [results, Try.results16, go_sem]) rfl ⟨rfl, ?_⟩
    exact ((ExtM.refl _).alloc _).alloc _

theorem rlone_c (s k t v : Int) (w : World) :
    Calls Try.prog 17 #[.int .i64 s, .agg #[.int .i64 k, .int .i64 t, .int .i64 v]] w fun e w' =>
      e = .returned (if s = 0 then .agg #[.int .i64 k, .int .i64 k, .int .i64 t, .int .i64 v, .int .i64 0, .int .i64 0, .int .i64 0, .bool true, .bool false] else .agg #[.int .i64 k, .int .i64 0, .int .i64 0, .int .i64 0, .int .i64 k, .int .i64 t, .int .i64 v, .bool false, .bool true]) ∧ Ext w w' := by
  by_cases hs : s = 0
  · rw [if_pos hs]
    subst hs
    go_enter Try.func17, Try.ntmps17
    go_wp2
    refine bodyPost_ret (v := .agg #[.int .i64 k, .int .i64 k, .int .i64 t, .int .i64 v, .int .i64 0, .int .i64 0, .int .i64 0, .bool true, .bool false]) (by simp [results, Try.results17, go_sem]) rfl ⟨rfl, ?_⟩
    exact ((((ExtM.refl _).alloc _).alloc _).alloc _)
  · rw [if_neg hs]
    have hs' : (s == 0) = false := by simpa using hs
    go_enter Try.func17, Try.ntmps17
    go_wp2
    refine bodyPost_ret (v := .agg #[.int .i64 k, .int .i64 0, .int .i64 0, .int .i64 0, .int .i64 k, .int .i64 t, .int .i64 v, .bool false, .bool true]) (by simp [results, Try.results17, go_sem]) rfl ⟨rfl, ?_⟩
    exact ((((ExtM.refl _).alloc _).alloc _).alloc _)

/-! ### Meets -/
def meetsB (lo hi lk lt rk rt : Int) : Bool := decide (lk = rk) && (decide (lo ≤ wrap64 (rt - lt)) && decide (wrap64 (rt - lt) ≤ hi))

theorem meets_c (lo hi mo lk lt lv rk rt rv : Int) (w : World) :
    Calls Try.prog 18 #[.agg #[.int .i64 lo, .int .i64 hi, .int .i64 mo], .agg #[.int .i64 lk, .int .i64 lt, .int .i64 lv], .agg #[.int .i64 rk, .int .i64 rt, .int .i64 rv]] w fun e w' =>
      e = .returned (.bool (meetsB lo hi lk lt rk rt)) ∧ Ext w w' := by
  unfold meetsB
  by_cases h1 : lk = rk
  · subst h1
    by_cases h2 : lo ≤ wrap64 (rt - lt)
    · by_cases h3 : wrap64 (rt - lt) ≤ hi
      · go_enter Try.func18, Try.ntmps18
        go_wp2
        go_ret
        exact ⟨ret_bool (by simp [h2, h3]), (((ExtM.refl _).alloc _).alloc _).alloc _⟩
      · go_enter Try.func18, Try.ntmps18
        go_wp2
        go_ret
        exact ⟨ret_bool (by simp [h3]), (((ExtM.refl _).alloc _).alloc _).alloc _⟩
    · go_enter Try.func18, Try.ntmps18
      go_wp2
      go_ret
      exact ⟨ret_bool (by have h2' := Int.not_le.2 h2; simp [h2']), (((ExtM.refl _).alloc _).alloc _).alloc _⟩
  · have h1' : (lk == rk) = false := by simpa using h1
    go_enter Try.func18, Try.ntmps18
    go_wp2
    go_ret
    exact ⟨ret_bool (by simp [h1]), (((ExtM.refl _).alloc _).alloc _).alloc _⟩
end Go.Proofs.Ytmdgobfghieneaa
