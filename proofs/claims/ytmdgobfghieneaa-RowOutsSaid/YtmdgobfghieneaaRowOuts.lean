/- The law RowOuts (1.1): its walk. -/
import Derived.Test.YtmdgobfghieneaaRowLaws
import Derived.Test.YtmdgobfghieneaaShapes
namespace Go.Proofs.Ytmdgobfghieneaa
open Go.RowKit Go.Plan

theorem rcompareOut_c' (a b : Out) (w : World) :
    Calls Try.prog 15 #[.agg #[.int .i64 a.key, .int .i64 a.l.k, .int .i64 a.l.t, .int .i64 a.l.v, .int .i64 a.r.k, .int .i64 a.r.t, .int .i64 a.r.v, .bool a.hl, .bool a.hr], .agg #[.int .i64 b.key, .int .i64 b.l.k, .int .i64 b.l.t, .int .i64 b.l.v, .int .i64 b.r.k, .int .i64 b.r.t, .int .i64 b.r.v, .bool b.hl, .bool b.hr]] w fun e w' =>
      e = .returned (.int .i64 (compareOutI a b)) ∧ Ext w w' := by
  rw [← rcompareOutI_eq]; exact rcompareOut_c a b w

theorem lone0_c (k t v : Int) (w : World) :
    Calls Try.prog 16 #[.int .i64 0, .agg #[.int .i64 k, .int .i64 t, .int .i64 v]] w fun e w' =>
      e = .returned (.agg #[.int .i64 k, .int .i64 k, .int .i64 t, .int .i64 v, .int .i64 0, .int .i64 0, .int .i64 0, .bool true, .bool false]) ∧ Ext w w' := by
  have := lone_c 0 k t v w; rwa [if_pos rfl] at this
theorem lone1_c (s k t v : Int) (w : World) (hs : s ≠ 0) :
    Calls Try.prog 16 #[.int .i64 s, .agg #[.int .i64 k, .int .i64 t, .int .i64 v]] w fun e w' =>
      e = .returned (.agg #[.int .i64 k, .int .i64 0, .int .i64 0, .int .i64 0, .int .i64 k, .int .i64 t, .int .i64 v, .bool false, .bool true]) ∧ Ext w w' := by
  have := lone_c s k t v w; rwa [if_neg hs] at this
theorem rlone0_c (k t v : Int) (w : World) :
    Calls Try.prog 17 #[.int .i64 0, .agg #[.int .i64 k, .int .i64 t, .int .i64 v]] w fun e w' =>
      e = .returned (.agg #[.int .i64 k, .int .i64 k, .int .i64 t, .int .i64 v, .int .i64 0, .int .i64 0, .int .i64 0, .bool true, .bool false]) ∧ Ext w w' := by
  have := rlone_c 0 k t v w; rwa [if_pos rfl] at this
theorem rlone1_c (s k t v : Int) (w : World) (hs : s ≠ 0) :
    Calls Try.prog 17 #[.int .i64 s, .agg #[.int .i64 k, .int .i64 t, .int .i64 v]] w fun e w' =>
      e = .returned (.agg #[.int .i64 k, .int .i64 0, .int .i64 0, .int .i64 0, .int .i64 k, .int .i64 t, .int .i64 v, .bool false, .bool true]) ∧ Ext w w' := by
  have := rlone_c s k t v w; rwa [if_neg hs] at this

/-- The value of Lone, whichever the side, as the walk meets it. -/
def loneC (s k t v : Int) : Array Value := if s = 0 then #[.int .i64 k, .int .i64 k, .int .i64 t, .int .i64 v, .int .i64 0, .int .i64 0, .int .i64 0, .bool true, .bool false] else #[.int .i64 k, .int .i64 0, .int .i64 0, .int .i64 0, .int .i64 k, .int .i64 t, .int .i64 v, .bool false, .bool true]

/-- Whichever of the two the answer is. -/
def Bi (g : Bool) (w : World) (e : Ending) (w' : World) : Prop := e = .returned (.bool g) ∧ Ext w w'

set_option maxHeartbeats 1000000 in
theorem rowOuts_core (ka : Int) (la ra : Row) (hla hra : Bool) (kb : Int) (lb rb : Row) (hlb hrb : Bool) (lo hi mo lk lt lv rk rt rv s : Int) (w : World) (g1 g2 : Bool)
    (c1 : Hid (∀ w, Calls Try.prog 9 #[.agg #[.int .i64 lk, .int .i64 lt, .int .i64 lv]] w (Bi g1 w)))
    (c2 : Hid (∀ w, Calls Try.prog 9 #[.agg #[.int .i64 rk, .int .i64 rt, .int .i64 rv]] w (Bi g2 w))) :
    Calls Try.prog 4 #[.agg #[.int .i64 ka, .int .i64 la.k, .int .i64 la.t, .int .i64 la.v, .int .i64 ra.k, .int .i64 ra.t, .int .i64 ra.v, .bool hla, .bool hra], .agg #[.int .i64 kb, .int .i64 lb.k, .int .i64 lb.t, .int .i64 lb.v, .int .i64 rb.k, .int .i64 rb.t, .int .i64 rb.v, .bool hlb, .bool hrb],
      .agg #[.int .i64 lo, .int .i64 hi, .int .i64 mo], .agg #[.int .i64 lk, .int .i64 lt, .int .i64 lv], .agg #[.int .i64 rk, .int .i64 rt, .int .i64 rv], .int .i64 s] w fun e w' => e = .returned (.bool true) ∧ Ext w w' := by
  by_cases hs : s = 0
  · subst hs
    go_enter Try.func4, Try.ntmps4
    go_wp2_with fail
    refine Plan.begin Plan.Ext 16 rfl (by kernel_rfl) ?_
    refine Plan.left_q 0 (by rfl) (by kernel_rfl) ?_; go_big_quiet_step (fail); refine wpQuiet_nil ?_
    refine Plan.left_q 1 (by rfl) (by kernel_rfl) ?_; go_big_quiet_step (fail); refine wpQuiet_nil ?_
    refine Plan.left_q 3 (by rfl) (by kernel_rfl) ?_; go_big_quiet_step (fail); refine wpQuiet_nil ?_
    refine Plan.left_q 4 (by rfl) (by kernel_rfl) ?_; go_big_quiet_step (fail); refine wpQuiet_nil ?_
    refine Plan.left_one 2 (by kernel_rfl) (by rfl) (Plan.plain rfl fun K hK => ?_)
    go_wp2_with (fail)
    refine (compareOut_c ⟨ka, la, ra, hla, hra⟩ ⟨kb, lb, rb, hlb, hrb⟩ _).mono ?_
    rintro e w1 ⟨rfl, h1⟩
    have H1 := ExtM.trans _ _ _ (ExtM.refl _).drew h1
    obtain ⟨hc1, hf1, -⟩ := Ext.rules H1
    have hs1_0 : w.heap.size < w1.heap.size := by have := H1.size; (try simp at this); omega
    have hs1_1 : w.heap.size + 1 < w1.heap.size := by have := H1.size; (try simp at this); omega
    have hs1_2 : w.heap.size + 2 < w1.heap.size := by have := H1.size; (try simp at this); omega
    have hs1_3 : w.heap.size + 3 < w1.heap.size := by have := H1.size; (try simp at this); omega
    have hs1_4 : w.heap.size + 4 < w1.heap.size := by have := H1.size; (try simp at this); omega
    go_wp2_with (fail)
    refine hK _ _ h1 ?_
    clear hK K
    refine Plan.left_one 5 (by kernel_rfl) (by rfl) (Plan.plain rfl fun K hK => ?_)
    go_wp2_with (fail)
    refine (rcompareOut_c' ⟨ka, la, ra, hla, hra⟩ ⟨kb, lb, rb, hlb, hrb⟩ _).mono ?_
    rintro e w2 ⟨rfl, h2⟩
    clear hc1 hf1 hs1_0 hs1_1 hs1_2 hs1_3 hs1_4
    have H2 := ExtM.trans _ _ _ H1 h2
    obtain ⟨hc2, hf2, -⟩ := Ext.rules H2
    have hs2_0 : w.heap.size < w2.heap.size := by have := H2.size; (try simp at this); omega
    have hs2_1 : w.heap.size + 1 < w2.heap.size := by have := H2.size; (try simp at this); omega
    have hs2_2 : w.heap.size + 2 < w2.heap.size := by have := H2.size; (try simp at this); omega
    have hs2_3 : w.heap.size + 3 < w2.heap.size := by have := H2.size; (try simp at this); omega
    have hs2_4 : w.heap.size + 4 < w2.heap.size := by have := H2.size; (try simp at this); omega
    go_wp2_with (fail)
    refine hK _ _ h2 ?_
    clear hK K
    refine Plan.left_q 6 (by rfl) (by kernel_rfl) ?_; go_big_quiet_step (fail); refine wpQuiet_nil ?_
    refine Plan.left_q 7 (by rfl) (by kernel_rfl) ?_; go_big_quiet_step (fail); refine wpQuiet_nil ?_
    refine Plan.left_q 8 (by rfl) (by kernel_rfl) ?_; go_big_quiet_step (fail); refine wpQuiet_nil ?_
    refine Plan.left_q 9 (by rfl) (by kernel_rfl) ?_; go_big_quiet_step (fail); refine wpQuiet_nil ?_
    refine Plan.left_q 11 (by rfl) (by kernel_rfl) ?_; go_big_quiet_step (fail); refine wpQuiet_nil ?_
    refine Plan.left_q 12 (by rfl) (by kernel_rfl) ?_; go_big_quiet_step (fail); refine wpQuiet_nil ?_
    refine Plan.left_one 10 (by kernel_rfl) (by rfl) (Plan.want rfl fun K hK => ?_)
    go_wp2_with (fail)
    refine (lone0_c _ _ _ _).mono ?_
    rintro e w3 ⟨rfl, h3⟩
    clear hc2 hf2 hs2_0 hs2_1 hs2_2 hs2_3 hs2_4
    have H3 := ExtM.trans _ _ _ H2 h3
    obtain ⟨hc3, hf3, -⟩ := Ext.rules H3
    have hs3_0 : w.heap.size < w3.heap.size := by have := H3.size; (try simp at this); omega
    have hs3_1 : w.heap.size + 1 < w3.heap.size := by have := H3.size; (try simp at this); omega
    have hs3_2 : w.heap.size + 2 < w3.heap.size := by have := H3.size; (try simp at this); omega
    have hs3_3 : w.heap.size + 3 < w3.heap.size := by have := H3.size; (try simp at this); omega
    have hs3_4 : w.heap.size + 4 < w3.heap.size := by have := H3.size; (try simp at this); omega
    go_wp2_with (fail)
    refine hK _ _ h3 ?_
    clear hK K
    refine Plan.left_one 13 (by kernel_rfl) (by rfl) (Plan.want rfl fun K hK => ?_)
    go_wp2_with (fail)
    refine (rlone0_c _ _ _ _).mono ?_
    rintro e w4 ⟨rfl, h4⟩
    clear hc3 hf3 hs3_0 hs3_1 hs3_2 hs3_3 hs3_4
    have H4 := ExtM.trans _ _ _ H3 h4
    obtain ⟨hc4, hf4, -⟩ := Ext.rules H4
    have hs4_0 : w.heap.size < w4.heap.size := by have := H4.size; (try simp at this); omega
    have hs4_1 : w.heap.size + 1 < w4.heap.size := by have := H4.size; (try simp at this); omega
    have hs4_2 : w.heap.size + 2 < w4.heap.size := by have := H4.size; (try simp at this); omega
    have hs4_3 : w.heap.size + 3 < w4.heap.size := by have := H4.size; (try simp at this); omega
    have hs4_4 : w.heap.size + 4 < w4.heap.size := by have := H4.size; (try simp at this); omega
    go_wp2_with (fail)
    refine hK _ _ h4 ?_
    clear hK K
    refine Plan.left_q 14 (by rfl) (by kernel_rfl) ?_; go_big_quiet_step (fail); refine wpQuiet_nil ?_
    refine Plan.left_q 15 (by rfl) (by kernel_rfl) ?_; go_big_quiet_step (fail); refine wpQuiet_nil ?_
    refine Plan.left_done (by kernel_rfl) ?_
    go_wp2_with fail
    refine (c1.out _).mono ?_
    rintro e w5 ⟨rfl, h5⟩
    clear hc4 hf4 hs4_0 hs4_1 hs4_2 hs4_3 hs4_4
    have H5 := ExtM.trans _ _ _ H4 h5
    obtain ⟨hc5, hf5, -⟩ := Ext.rules H5
    cases g1
    · go_wp2_with fail
      go_ret
      exact ⟨rfl, ExtM.trans _ _ _ (((((ExtM.refl _).alloc _).alloc _).alloc _).alloc _ |>.alloc _) H5⟩
    go_wp2_with fail
    refine (c2.out _).mono ?_
    rintro e w6 ⟨rfl, h6⟩
    clear hc5 hf5
    have H6 := ExtM.trans _ _ _ H5 h6
    obtain ⟨hc6, hf6, -⟩ := Ext.rules H6
    cases g2
    · go_wp2_with fail
      go_ret
      exact ⟨rfl, ExtM.trans _ _ _ (((((ExtM.refl _).alloc _).alloc _).alloc _).alloc _ |>.alloc _) H6⟩
    have hs6_0 : w.heap.size < w6.heap.size := by have := H6.size; simp at this; omega
    have hs6_1 : w.heap.size + 1 < w6.heap.size := by have := H6.size; simp at this; omega
    have hs6_2 : w.heap.size + 2 < w6.heap.size := by have := H6.size; simp at this; omega
    have hs6_3 : w.heap.size + 3 < w6.heap.size := by have := H6.size; simp at this; omega
    have hs6_4 : w.heap.size + 4 < w6.heap.size := by have := H6.size; simp at this; omega
    go_wp2_with fail
    have c7 := meets_c lo hi mo lk lt lv rk rt rv
    unfold meetsB at c7
    have C7 : Hid (∀ w, Calls Try.prog 18 #[.agg #[.int .i64 lo, .int .i64 hi, .int .i64 mo], .agg #[.int .i64 lk, .int .i64 lt, .int .i64 lv], .agg #[.int .i64 rk, .int .i64 rt, .int .i64 rv]] w fun e w' => e = .returned (.bool (decide (lk = rk) && (decide (lo ≤ wrap64 (rt - lt)) && decide (wrap64 (rt - lt) ≤ hi)))) ∧ Ext w w') := c7
    clear c7
    have fin : Ext w w6 := ExtM.trans _ _ _ (((((ExtM.refl _).alloc _).alloc _).alloc _).alloc _ |>.alloc _) H6
    clear h1 h2 h3 h4 h5 h6 H1 H2 H3 H4 H5 H6
    by_cases q1 : lk = rk
    · subst q1
      by_cases q2 : lo ≤ wrap64 (rt - lt)
      · by_cases q3 : wrap64 (rt - lt) ≤ hi
        · skip
          refine Plan.begin Plan.Ext 23 rfl (by kernel_rfl) ?_
          refine Plan.left_q 0 (by rfl) (by kernel_rfl) ?_; go_big_quiet_step (fail); refine wpQuiet_nil ?_
          refine Plan.left_q 1 (by rfl) (by kernel_rfl) ?_; go_big_quiet_step (fail); refine wpQuiet_nil ?_
          refine Plan.left_q 2 (by rfl) (by kernel_rfl) ?_; go_big_quiet_step (fail); refine wpQuiet_nil ?_
          refine Plan.left_q 4 (by rfl) (by kernel_rfl) ?_; go_big_quiet_step (fail); refine wpQuiet_nil ?_
          refine Plan.left_q 5 (by rfl) (by kernel_rfl) ?_; go_big_quiet_step (fail); refine wpQuiet_nil ?_
          refine Plan.left_q 6 (by rfl) (by kernel_rfl) ?_; go_big_quiet_step (fail); refine wpQuiet_nil ?_
          refine Plan.left_q 7 (by rfl) (by kernel_rfl) ?_; go_big_quiet_step (fail); refine wpQuiet_nil ?_
          refine Plan.left_q 8 (by rfl) (by kernel_rfl) ?_; go_big_quiet_step (fail); refine wpQuiet_nil ?_
          refine Plan.left_one 3 (by kernel_rfl) (by rfl) (Plan.plain rfl fun K hK => ?_)
          go_wp2_with (fail)
          refine (C7.out _).mono ?_
          rintro e w7 ⟨rfl, h7⟩
          have H7 := ExtM.trans _ _ _ (ExtM.refl _).drew h7
          obtain ⟨hc7, hf7, -⟩ := Ext.rules H7
          have hs7_0 : w.heap.size < w7.heap.size := by have := H7.size; (try simp at this); omega
          have hs7_1 : w.heap.size + 1 < w7.heap.size := by have := H7.size; (try simp at this); omega
          have hs7_2 : w.heap.size + 2 < w7.heap.size := by have := H7.size; (try simp at this); omega
          have hs7_3 : w.heap.size + 3 < w7.heap.size := by have := H7.size; (try simp at this); omega
          have hs7_4 : w.heap.size + 4 < w7.heap.size := by have := H7.size; (try simp at this); omega
          go_wp2_with (fail)
          refine hK _ _ h7 ?_
          clear hK K
          refine Plan.left_q 9 (by rfl) (by kernel_rfl) ?_; go_big_quiet_step (fail); refine wpQuiet_nil ?_
          refine Plan.left_q 10 (by rfl) (by kernel_rfl) ?_; go_big_quiet_step (fail); refine wpQuiet_nil ?_
          refine Plan.left_q 11 (by rfl) (by kernel_rfl) ?_; go_big_quiet_step (fail); refine wpQuiet_nil ?_
          refine Plan.left_q 12 (by rfl) (by kernel_rfl) ?_; go_big_quiet_step (fail); refine wpQuiet_nil ?_
          refine Plan.left_q 13 (by rfl) (by kernel_rfl) ?_; go_big_quiet_step (fail); refine wpQuiet_nil ?_
          refine Plan.left_q 14 (by rfl) (by kernel_rfl) ?_; go_big_quiet_step (fail); refine wpQuiet_nil ?_
          refine Plan.left_q 15 (by rfl) (by kernel_rfl) ?_; go_big_quiet_step (fail); refine wpQuiet_nil ?_
          refine Plan.left_q 16 (by rfl) (by kernel_rfl) ?_; go_big_quiet_step (fail); refine wpQuiet_nil ?_
          refine Plan.left_q 17 (by rfl) (by kernel_rfl) ?_; go_big_quiet_step (fail); refine wpQuiet_nil ?_
          refine Plan.left_q 18 (by rfl) (by kernel_rfl) ?_; go_big_quiet_step (fail); refine wpQuiet_nil ?_
          refine Plan.left_q 19 (by rfl) (by kernel_rfl) ?_; go_big_quiet_step (fail); refine wpQuiet_nil ?_
          refine Plan.left_q 20 (by rfl) (by kernel_rfl) ?_; go_big_quiet_step (fail); refine wpQuiet_nil ?_
          refine Plan.left_q 21 (by rfl) (by kernel_rfl) ?_; go_big_quiet_step (fail); refine wpQuiet_nil ?_
          refine Plan.left_q 22 (by rfl) (by kernel_rfl) ?_; go_big_quiet_step (fail); refine wpQuiet_nil ?_
          refine Plan.left_done (by kernel_rfl) ?_
          go_wp2_with fail
          go_ret
          exact ⟨ret_bool (by simp [*]), ExtM.trans _ _ _ fin.drew h7⟩
        · have q3' : decide (wrap64 (rt - lt) ≤ hi) = false := by simpa using q3
          refine Plan.begin Plan.Ext 23 rfl (by kernel_rfl) ?_
          refine Plan.left_q 0 (by rfl) (by kernel_rfl) ?_; go_big_quiet_step (fail); refine wpQuiet_nil ?_
          refine Plan.left_q 1 (by rfl) (by kernel_rfl) ?_; go_big_quiet_step (fail); refine wpQuiet_nil ?_
          refine Plan.left_q 2 (by rfl) (by kernel_rfl) ?_; go_big_quiet_step (fail); refine wpQuiet_nil ?_
          refine Plan.left_q 4 (by rfl) (by kernel_rfl) ?_; go_big_quiet_step (fail); refine wpQuiet_nil ?_
          refine Plan.left_q 5 (by rfl) (by kernel_rfl) ?_; go_big_quiet_step (fail); refine wpQuiet_nil ?_
          refine Plan.left_q 6 (by rfl) (by kernel_rfl) ?_; go_big_quiet_step (fail); refine wpQuiet_nil ?_
          refine Plan.left_q 7 (by rfl) (by kernel_rfl) ?_; go_big_quiet_step (fail); refine wpQuiet_nil ?_
          refine Plan.left_q 8 (by rfl) (by kernel_rfl) ?_; go_big_quiet_step (fail); refine wpQuiet_nil ?_
          refine Plan.left_one 3 (by kernel_rfl) (by rfl) (Plan.plain rfl fun K hK => ?_)
          go_wp2_with (fail)
          refine (C7.out _).mono ?_
          rintro e w7 ⟨rfl, h7⟩
          have H7 := ExtM.trans _ _ _ (ExtM.refl _).drew h7
          obtain ⟨hc7, hf7, -⟩ := Ext.rules H7
          have hs7_0 : w.heap.size < w7.heap.size := by have := H7.size; (try simp at this); omega
          have hs7_1 : w.heap.size + 1 < w7.heap.size := by have := H7.size; (try simp at this); omega
          have hs7_2 : w.heap.size + 2 < w7.heap.size := by have := H7.size; (try simp at this); omega
          have hs7_3 : w.heap.size + 3 < w7.heap.size := by have := H7.size; (try simp at this); omega
          have hs7_4 : w.heap.size + 4 < w7.heap.size := by have := H7.size; (try simp at this); omega
          go_wp2_with (fail)
          refine hK _ _ h7 ?_
          clear hK K
          refine Plan.left_q 9 (by rfl) (by kernel_rfl) ?_; go_big_quiet_step (fail); refine wpQuiet_nil ?_
          refine Plan.left_q 10 (by rfl) (by kernel_rfl) ?_; go_big_quiet_step (fail); refine wpQuiet_nil ?_
          refine Plan.left_q 11 (by rfl) (by kernel_rfl) ?_; go_big_quiet_step (fail); refine wpQuiet_nil ?_
          refine Plan.left_q 12 (by rfl) (by kernel_rfl) ?_; go_big_quiet_step (fail); refine wpQuiet_nil ?_
          refine Plan.left_q 13 (by rfl) (by kernel_rfl) ?_; go_big_quiet_step (fail); refine wpQuiet_nil ?_
          refine Plan.left_q 14 (by rfl) (by kernel_rfl) ?_; go_big_quiet_step (fail); refine wpQuiet_nil ?_
          refine Plan.left_q 15 (by rfl) (by kernel_rfl) ?_; go_big_quiet_step (fail); refine wpQuiet_nil ?_
          refine Plan.left_q 16 (by rfl) (by kernel_rfl) ?_; go_big_quiet_step (fail); refine wpQuiet_nil ?_
          refine Plan.left_q 17 (by rfl) (by kernel_rfl) ?_; go_big_quiet_step (fail); refine wpQuiet_nil ?_
          refine Plan.left_q 18 (by rfl) (by kernel_rfl) ?_; go_big_quiet_step (fail); refine wpQuiet_nil ?_
          refine Plan.left_q 19 (by rfl) (by kernel_rfl) ?_; go_big_quiet_step (fail); refine wpQuiet_nil ?_
          refine Plan.left_q 20 (by rfl) (by kernel_rfl) ?_; go_big_quiet_step (fail); refine wpQuiet_nil ?_
          refine Plan.left_q 21 (by rfl) (by kernel_rfl) ?_; go_big_quiet_step (fail); refine wpQuiet_nil ?_
          refine Plan.left_q 22 (by rfl) (by kernel_rfl) ?_; go_big_quiet_step (fail); refine wpQuiet_nil ?_
          refine Plan.left_done (by kernel_rfl) ?_
          go_wp2_with fail
          go_ret
          exact ⟨ret_bool (by simp [*]), ExtM.trans _ _ _ fin.drew h7⟩
      · have q2' : decide (lo ≤ wrap64 (rt - lt)) = false := by simpa using q2
        refine Plan.begin Plan.Ext 23 rfl (by kernel_rfl) ?_
        refine Plan.left_q 0 (by rfl) (by kernel_rfl) ?_; go_big_quiet_step (fail); refine wpQuiet_nil ?_
        refine Plan.left_q 1 (by rfl) (by kernel_rfl) ?_; go_big_quiet_step (fail); refine wpQuiet_nil ?_
        refine Plan.left_q 2 (by rfl) (by kernel_rfl) ?_; go_big_quiet_step (fail); refine wpQuiet_nil ?_
        refine Plan.left_q 4 (by rfl) (by kernel_rfl) ?_; go_big_quiet_step (fail); refine wpQuiet_nil ?_
        refine Plan.left_q 5 (by rfl) (by kernel_rfl) ?_; go_big_quiet_step (fail); refine wpQuiet_nil ?_
        refine Plan.left_q 6 (by rfl) (by kernel_rfl) ?_; go_big_quiet_step (fail); refine wpQuiet_nil ?_
        refine Plan.left_q 7 (by rfl) (by kernel_rfl) ?_; go_big_quiet_step (fail); refine wpQuiet_nil ?_
        refine Plan.left_q 8 (by rfl) (by kernel_rfl) ?_; go_big_quiet_step (fail); refine wpQuiet_nil ?_
        refine Plan.left_one 3 (by kernel_rfl) (by rfl) (Plan.plain rfl fun K hK => ?_)
        go_wp2_with (fail)
        refine (C7.out _).mono ?_
        rintro e w7 ⟨rfl, h7⟩
        have H7 := ExtM.trans _ _ _ (ExtM.refl _).drew h7
        obtain ⟨hc7, hf7, -⟩ := Ext.rules H7
        have hs7_0 : w.heap.size < w7.heap.size := by have := H7.size; (try simp at this); omega
        have hs7_1 : w.heap.size + 1 < w7.heap.size := by have := H7.size; (try simp at this); omega
        have hs7_2 : w.heap.size + 2 < w7.heap.size := by have := H7.size; (try simp at this); omega
        have hs7_3 : w.heap.size + 3 < w7.heap.size := by have := H7.size; (try simp at this); omega
        have hs7_4 : w.heap.size + 4 < w7.heap.size := by have := H7.size; (try simp at this); omega
        go_wp2_with (fail)
        refine hK _ _ h7 ?_
        clear hK K
        refine Plan.left_q 9 (by rfl) (by kernel_rfl) ?_; go_big_quiet_step (fail); refine wpQuiet_nil ?_
        refine Plan.left_q 10 (by rfl) (by kernel_rfl) ?_; go_big_quiet_step (fail); refine wpQuiet_nil ?_
        refine Plan.left_q 11 (by rfl) (by kernel_rfl) ?_; go_big_quiet_step (fail); refine wpQuiet_nil ?_
        refine Plan.left_q 12 (by rfl) (by kernel_rfl) ?_; go_big_quiet_step (fail); refine wpQuiet_nil ?_
        refine Plan.left_q 13 (by rfl) (by kernel_rfl) ?_; go_big_quiet_step (fail); refine wpQuiet_nil ?_
        refine Plan.left_q 14 (by rfl) (by kernel_rfl) ?_; go_big_quiet_step (fail); refine wpQuiet_nil ?_
        refine Plan.left_q 15 (by rfl) (by kernel_rfl) ?_; go_big_quiet_step (fail); refine wpQuiet_nil ?_
        refine Plan.left_q 16 (by rfl) (by kernel_rfl) ?_; go_big_quiet_step (fail); refine wpQuiet_nil ?_
        refine Plan.left_q 17 (by rfl) (by kernel_rfl) ?_; go_big_quiet_step (fail); refine wpQuiet_nil ?_
        refine Plan.left_q 18 (by rfl) (by kernel_rfl) ?_; go_big_quiet_step (fail); refine wpQuiet_nil ?_
        refine Plan.left_q 19 (by rfl) (by kernel_rfl) ?_; go_big_quiet_step (fail); refine wpQuiet_nil ?_
        refine Plan.left_q 20 (by rfl) (by kernel_rfl) ?_; go_big_quiet_step (fail); refine wpQuiet_nil ?_
        refine Plan.left_q 21 (by rfl) (by kernel_rfl) ?_; go_big_quiet_step (fail); refine wpQuiet_nil ?_
        refine Plan.left_q 22 (by rfl) (by kernel_rfl) ?_; go_big_quiet_step (fail); refine wpQuiet_nil ?_
        refine Plan.left_done (by kernel_rfl) ?_
        go_wp2_with fail
        go_ret
        exact ⟨ret_bool (by simp [*]), ExtM.trans _ _ _ fin.drew h7⟩
    · have q1' : (lk == rk) = false := by simpa using q1
      skip
      refine Plan.begin Plan.Ext 23 rfl (by kernel_rfl) ?_
      refine Plan.left_q 0 (by rfl) (by kernel_rfl) ?_; go_big_quiet_step (fail); refine wpQuiet_nil ?_
      refine Plan.left_q 1 (by rfl) (by kernel_rfl) ?_; go_big_quiet_step (fail); refine wpQuiet_nil ?_
      refine Plan.left_q 2 (by rfl) (by kernel_rfl) ?_; go_big_quiet_step (fail); refine wpQuiet_nil ?_
      refine Plan.left_q 4 (by rfl) (by kernel_rfl) ?_; go_big_quiet_step (fail); refine wpQuiet_nil ?_
      refine Plan.left_q 5 (by rfl) (by kernel_rfl) ?_; go_big_quiet_step (fail); refine wpQuiet_nil ?_
      refine Plan.left_q 6 (by rfl) (by kernel_rfl) ?_; go_big_quiet_step (fail); refine wpQuiet_nil ?_
      refine Plan.left_q 7 (by rfl) (by kernel_rfl) ?_; go_big_quiet_step (fail); refine wpQuiet_nil ?_
      refine Plan.left_q 8 (by rfl) (by kernel_rfl) ?_; go_big_quiet_step (fail); refine wpQuiet_nil ?_
      refine Plan.left_one 3 (by kernel_rfl) (by rfl) (Plan.plain rfl fun K hK => ?_)
      go_wp2_with (fail)
      refine (C7.out _).mono ?_
      rintro e w7 ⟨rfl, h7⟩
      have H7 := ExtM.trans _ _ _ (ExtM.refl _).drew h7
      obtain ⟨hc7, hf7, -⟩ := Ext.rules H7
      have hs7_0 : w.heap.size < w7.heap.size := by have := H7.size; (try simp at this); omega
      have hs7_1 : w.heap.size + 1 < w7.heap.size := by have := H7.size; (try simp at this); omega
      have hs7_2 : w.heap.size + 2 < w7.heap.size := by have := H7.size; (try simp at this); omega
      have hs7_3 : w.heap.size + 3 < w7.heap.size := by have := H7.size; (try simp at this); omega
      have hs7_4 : w.heap.size + 4 < w7.heap.size := by have := H7.size; (try simp at this); omega
      go_wp2_with (fail)
      refine hK _ _ h7 ?_
      clear hK K
      refine Plan.left_q 9 (by rfl) (by kernel_rfl) ?_; go_big_quiet_step (fail); refine wpQuiet_nil ?_
      refine Plan.left_q 10 (by rfl) (by kernel_rfl) ?_; go_big_quiet_step (fail); refine wpQuiet_nil ?_
      refine Plan.left_q 11 (by rfl) (by kernel_rfl) ?_; go_big_quiet_step (fail); refine wpQuiet_nil ?_
      refine Plan.left_q 12 (by rfl) (by kernel_rfl) ?_; go_big_quiet_step (fail); refine wpQuiet_nil ?_
      refine Plan.left_q 13 (by rfl) (by kernel_rfl) ?_; go_big_quiet_step (fail); refine wpQuiet_nil ?_
      refine Plan.left_q 14 (by rfl) (by kernel_rfl) ?_; go_big_quiet_step (fail); refine wpQuiet_nil ?_
      refine Plan.left_q 15 (by rfl) (by kernel_rfl) ?_; go_big_quiet_step (fail); refine wpQuiet_nil ?_
      refine Plan.left_q 16 (by rfl) (by kernel_rfl) ?_; go_big_quiet_step (fail); refine wpQuiet_nil ?_
      refine Plan.left_q 17 (by rfl) (by kernel_rfl) ?_; go_big_quiet_step (fail); refine wpQuiet_nil ?_
      refine Plan.left_q 18 (by rfl) (by kernel_rfl) ?_; go_big_quiet_step (fail); refine wpQuiet_nil ?_
      refine Plan.left_q 19 (by rfl) (by kernel_rfl) ?_; go_big_quiet_step (fail); refine wpQuiet_nil ?_
      refine Plan.left_q 20 (by rfl) (by kernel_rfl) ?_; go_big_quiet_step (fail); refine wpQuiet_nil ?_
      refine Plan.left_q 21 (by rfl) (by kernel_rfl) ?_; go_big_quiet_step (fail); refine wpQuiet_nil ?_
      refine Plan.left_q 22 (by rfl) (by kernel_rfl) ?_; go_big_quiet_step (fail); refine wpQuiet_nil ?_
      refine Plan.left_done (by kernel_rfl) ?_
      go_wp2_with fail
      go_ret
      exact ⟨ret_bool (by simp [*]), ExtM.trans _ _ _ fin.drew h7⟩
  · have hs' : (s == 0) = false := by simpa using hs
    go_enter Try.func4, Try.ntmps4
    go_wp2_with fail
    refine Plan.begin Plan.Ext 16 rfl (by kernel_rfl) ?_
    refine Plan.left_q 0 (by rfl) (by kernel_rfl) ?_; go_big_quiet_step (fail); refine wpQuiet_nil ?_
    refine Plan.left_q 1 (by rfl) (by kernel_rfl) ?_; go_big_quiet_step (fail); refine wpQuiet_nil ?_
    refine Plan.left_q 3 (by rfl) (by kernel_rfl) ?_; go_big_quiet_step (fail); refine wpQuiet_nil ?_
    refine Plan.left_q 4 (by rfl) (by kernel_rfl) ?_; go_big_quiet_step (fail); refine wpQuiet_nil ?_
    refine Plan.left_one 2 (by kernel_rfl) (by rfl) (Plan.plain rfl fun K hK => ?_)
    go_wp2_with (fail)
    refine (compareOut_c ⟨ka, la, ra, hla, hra⟩ ⟨kb, lb, rb, hlb, hrb⟩ _).mono ?_
    rintro e w1 ⟨rfl, h1⟩
    have H1 := ExtM.trans _ _ _ (ExtM.refl _).drew h1
    obtain ⟨hc1, hf1, -⟩ := Ext.rules H1
    have hs1_0 : w.heap.size < w1.heap.size := by have := H1.size; (try simp at this); omega
    have hs1_1 : w.heap.size + 1 < w1.heap.size := by have := H1.size; (try simp at this); omega
    have hs1_2 : w.heap.size + 2 < w1.heap.size := by have := H1.size; (try simp at this); omega
    have hs1_3 : w.heap.size + 3 < w1.heap.size := by have := H1.size; (try simp at this); omega
    have hs1_4 : w.heap.size + 4 < w1.heap.size := by have := H1.size; (try simp at this); omega
    go_wp2_with (fail)
    refine hK _ _ h1 ?_
    clear hK K
    refine Plan.left_one 5 (by kernel_rfl) (by rfl) (Plan.plain rfl fun K hK => ?_)
    go_wp2_with (fail)
    refine (rcompareOut_c' ⟨ka, la, ra, hla, hra⟩ ⟨kb, lb, rb, hlb, hrb⟩ _).mono ?_
    rintro e w2 ⟨rfl, h2⟩
    clear hc1 hf1 hs1_0 hs1_1 hs1_2 hs1_3 hs1_4
    have H2 := ExtM.trans _ _ _ H1 h2
    obtain ⟨hc2, hf2, -⟩ := Ext.rules H2
    have hs2_0 : w.heap.size < w2.heap.size := by have := H2.size; (try simp at this); omega
    have hs2_1 : w.heap.size + 1 < w2.heap.size := by have := H2.size; (try simp at this); omega
    have hs2_2 : w.heap.size + 2 < w2.heap.size := by have := H2.size; (try simp at this); omega
    have hs2_3 : w.heap.size + 3 < w2.heap.size := by have := H2.size; (try simp at this); omega
    have hs2_4 : w.heap.size + 4 < w2.heap.size := by have := H2.size; (try simp at this); omega
    go_wp2_with (fail)
    refine hK _ _ h2 ?_
    clear hK K
    refine Plan.left_q 6 (by rfl) (by kernel_rfl) ?_; go_big_quiet_step (fail); refine wpQuiet_nil ?_
    refine Plan.left_q 7 (by rfl) (by kernel_rfl) ?_; go_big_quiet_step (fail); refine wpQuiet_nil ?_
    refine Plan.left_q 8 (by rfl) (by kernel_rfl) ?_; go_big_quiet_step (fail); refine wpQuiet_nil ?_
    refine Plan.left_q 9 (by rfl) (by kernel_rfl) ?_; go_big_quiet_step (fail); refine wpQuiet_nil ?_
    refine Plan.left_q 11 (by rfl) (by kernel_rfl) ?_; go_big_quiet_step (fail); refine wpQuiet_nil ?_
    refine Plan.left_q 12 (by rfl) (by kernel_rfl) ?_; go_big_quiet_step (fail); refine wpQuiet_nil ?_
    refine Plan.left_one 10 (by kernel_rfl) (by rfl) (Plan.want rfl fun K hK => ?_)
    go_wp2_with (fail)
    refine (lone1_c _ _ _ _ _ hs).mono ?_
    rintro e w3 ⟨rfl, h3⟩
    clear hc2 hf2 hs2_0 hs2_1 hs2_2 hs2_3 hs2_4
    have H3 := ExtM.trans _ _ _ H2 h3
    obtain ⟨hc3, hf3, -⟩ := Ext.rules H3
    have hs3_0 : w.heap.size < w3.heap.size := by have := H3.size; (try simp at this); omega
    have hs3_1 : w.heap.size + 1 < w3.heap.size := by have := H3.size; (try simp at this); omega
    have hs3_2 : w.heap.size + 2 < w3.heap.size := by have := H3.size; (try simp at this); omega
    have hs3_3 : w.heap.size + 3 < w3.heap.size := by have := H3.size; (try simp at this); omega
    have hs3_4 : w.heap.size + 4 < w3.heap.size := by have := H3.size; (try simp at this); omega
    go_wp2_with (fail)
    refine hK _ _ h3 ?_
    clear hK K
    refine Plan.left_one 13 (by kernel_rfl) (by rfl) (Plan.want rfl fun K hK => ?_)
    go_wp2_with (fail)
    refine (rlone1_c _ _ _ _ _ hs).mono ?_
    rintro e w4 ⟨rfl, h4⟩
    clear hc3 hf3 hs3_0 hs3_1 hs3_2 hs3_3 hs3_4
    have H4 := ExtM.trans _ _ _ H3 h4
    obtain ⟨hc4, hf4, -⟩ := Ext.rules H4
    have hs4_0 : w.heap.size < w4.heap.size := by have := H4.size; (try simp at this); omega
    have hs4_1 : w.heap.size + 1 < w4.heap.size := by have := H4.size; (try simp at this); omega
    have hs4_2 : w.heap.size + 2 < w4.heap.size := by have := H4.size; (try simp at this); omega
    have hs4_3 : w.heap.size + 3 < w4.heap.size := by have := H4.size; (try simp at this); omega
    have hs4_4 : w.heap.size + 4 < w4.heap.size := by have := H4.size; (try simp at this); omega
    go_wp2_with (fail)
    refine hK _ _ h4 ?_
    clear hK K
    refine Plan.left_q 14 (by rfl) (by kernel_rfl) ?_; go_big_quiet_step (fail); refine wpQuiet_nil ?_
    refine Plan.left_q 15 (by rfl) (by kernel_rfl) ?_; go_big_quiet_step (fail); refine wpQuiet_nil ?_
    refine Plan.left_done (by kernel_rfl) ?_
    go_wp2_with fail
    refine (c1.out _).mono ?_
    rintro e w5 ⟨rfl, h5⟩
    clear hc4 hf4 hs4_0 hs4_1 hs4_2 hs4_3 hs4_4
    have H5 := ExtM.trans _ _ _ H4 h5
    obtain ⟨hc5, hf5, -⟩ := Ext.rules H5
    cases g1
    · go_wp2_with fail
      go_ret
      exact ⟨rfl, ExtM.trans _ _ _ (((((ExtM.refl _).alloc _).alloc _).alloc _).alloc _ |>.alloc _) H5⟩
    go_wp2_with fail
    refine (c2.out _).mono ?_
    rintro e w6 ⟨rfl, h6⟩
    clear hc5 hf5
    have H6 := ExtM.trans _ _ _ H5 h6
    obtain ⟨hc6, hf6, -⟩ := Ext.rules H6
    cases g2
    · go_wp2_with fail
      go_ret
      exact ⟨rfl, ExtM.trans _ _ _ (((((ExtM.refl _).alloc _).alloc _).alloc _).alloc _ |>.alloc _) H6⟩
    have hs6_0 : w.heap.size < w6.heap.size := by have := H6.size; simp at this; omega
    have hs6_1 : w.heap.size + 1 < w6.heap.size := by have := H6.size; simp at this; omega
    have hs6_2 : w.heap.size + 2 < w6.heap.size := by have := H6.size; simp at this; omega
    have hs6_3 : w.heap.size + 3 < w6.heap.size := by have := H6.size; simp at this; omega
    have hs6_4 : w.heap.size + 4 < w6.heap.size := by have := H6.size; simp at this; omega
    go_wp2_with fail
    have c7 := meets_c lo hi mo lk lt lv rk rt rv
    unfold meetsB at c7
    have C7 : Hid (∀ w, Calls Try.prog 18 #[.agg #[.int .i64 lo, .int .i64 hi, .int .i64 mo], .agg #[.int .i64 lk, .int .i64 lt, .int .i64 lv], .agg #[.int .i64 rk, .int .i64 rt, .int .i64 rv]] w fun e w' => e = .returned (.bool (decide (lk = rk) && (decide (lo ≤ wrap64 (rt - lt)) && decide (wrap64 (rt - lt) ≤ hi)))) ∧ Ext w w') := c7
    clear c7
    have fin : Ext w w6 := ExtM.trans _ _ _ (((((ExtM.refl _).alloc _).alloc _).alloc _).alloc _ |>.alloc _) H6
    clear h1 h2 h3 h4 h5 h6 H1 H2 H3 H4 H5 H6
    by_cases q1 : lk = rk
    · subst q1
      by_cases q2 : lo ≤ wrap64 (rt - lt)
      · by_cases q3 : wrap64 (rt - lt) ≤ hi
        · skip
          refine Plan.begin Plan.Ext 23 rfl (by kernel_rfl) ?_
          refine Plan.left_q 0 (by rfl) (by kernel_rfl) ?_; go_big_quiet_step (fail); refine wpQuiet_nil ?_
          refine Plan.left_q 1 (by rfl) (by kernel_rfl) ?_; go_big_quiet_step (fail); refine wpQuiet_nil ?_
          refine Plan.left_q 2 (by rfl) (by kernel_rfl) ?_; go_big_quiet_step (fail); refine wpQuiet_nil ?_
          refine Plan.left_q 4 (by rfl) (by kernel_rfl) ?_; go_big_quiet_step (fail); refine wpQuiet_nil ?_
          refine Plan.left_q 5 (by rfl) (by kernel_rfl) ?_; go_big_quiet_step (fail); refine wpQuiet_nil ?_
          refine Plan.left_q 6 (by rfl) (by kernel_rfl) ?_; go_big_quiet_step (fail); refine wpQuiet_nil ?_
          refine Plan.left_q 7 (by rfl) (by kernel_rfl) ?_; go_big_quiet_step (fail); refine wpQuiet_nil ?_
          refine Plan.left_q 8 (by rfl) (by kernel_rfl) ?_; go_big_quiet_step (fail); refine wpQuiet_nil ?_
          refine Plan.left_one 3 (by kernel_rfl) (by rfl) (Plan.plain rfl fun K hK => ?_)
          go_wp2_with (fail)
          refine (C7.out _).mono ?_
          rintro e w7 ⟨rfl, h7⟩
          have H7 := ExtM.trans _ _ _ (ExtM.refl _).drew h7
          obtain ⟨hc7, hf7, -⟩ := Ext.rules H7
          have hs7_0 : w.heap.size < w7.heap.size := by have := H7.size; (try simp at this); omega
          have hs7_1 : w.heap.size + 1 < w7.heap.size := by have := H7.size; (try simp at this); omega
          have hs7_2 : w.heap.size + 2 < w7.heap.size := by have := H7.size; (try simp at this); omega
          have hs7_3 : w.heap.size + 3 < w7.heap.size := by have := H7.size; (try simp at this); omega
          have hs7_4 : w.heap.size + 4 < w7.heap.size := by have := H7.size; (try simp at this); omega
          go_wp2_with (fail)
          refine hK _ _ h7 ?_
          clear hK K
          refine Plan.left_q 9 (by rfl) (by kernel_rfl) ?_; go_big_quiet_step (fail); refine wpQuiet_nil ?_
          refine Plan.left_q 10 (by rfl) (by kernel_rfl) ?_; go_big_quiet_step (fail); refine wpQuiet_nil ?_
          refine Plan.left_q 11 (by rfl) (by kernel_rfl) ?_; go_big_quiet_step (fail); refine wpQuiet_nil ?_
          refine Plan.left_q 12 (by rfl) (by kernel_rfl) ?_; go_big_quiet_step (fail); refine wpQuiet_nil ?_
          refine Plan.left_q 13 (by rfl) (by kernel_rfl) ?_; go_big_quiet_step (fail); refine wpQuiet_nil ?_
          refine Plan.left_q 14 (by rfl) (by kernel_rfl) ?_; go_big_quiet_step (fail); refine wpQuiet_nil ?_
          refine Plan.left_q 15 (by rfl) (by kernel_rfl) ?_; go_big_quiet_step (fail); refine wpQuiet_nil ?_
          refine Plan.left_q 16 (by rfl) (by kernel_rfl) ?_; go_big_quiet_step (fail); refine wpQuiet_nil ?_
          refine Plan.left_q 17 (by rfl) (by kernel_rfl) ?_; go_big_quiet_step (fail); refine wpQuiet_nil ?_
          refine Plan.left_q 18 (by rfl) (by kernel_rfl) ?_; go_big_quiet_step (fail); refine wpQuiet_nil ?_
          refine Plan.left_q 19 (by rfl) (by kernel_rfl) ?_; go_big_quiet_step (fail); refine wpQuiet_nil ?_
          refine Plan.left_q 20 (by rfl) (by kernel_rfl) ?_; go_big_quiet_step (fail); refine wpQuiet_nil ?_
          refine Plan.left_q 21 (by rfl) (by kernel_rfl) ?_; go_big_quiet_step (fail); refine wpQuiet_nil ?_
          refine Plan.left_q 22 (by rfl) (by kernel_rfl) ?_; go_big_quiet_step (fail); refine wpQuiet_nil ?_
          refine Plan.left_done (by kernel_rfl) ?_
          go_wp2_with fail
          go_ret
          exact ⟨ret_bool (by simp [*]), ExtM.trans _ _ _ fin.drew h7⟩
        · have q3' : decide (wrap64 (rt - lt) ≤ hi) = false := by simpa using q3
          refine Plan.begin Plan.Ext 23 rfl (by kernel_rfl) ?_
          refine Plan.left_q 0 (by rfl) (by kernel_rfl) ?_; go_big_quiet_step (fail); refine wpQuiet_nil ?_
          refine Plan.left_q 1 (by rfl) (by kernel_rfl) ?_; go_big_quiet_step (fail); refine wpQuiet_nil ?_
          refine Plan.left_q 2 (by rfl) (by kernel_rfl) ?_; go_big_quiet_step (fail); refine wpQuiet_nil ?_
          refine Plan.left_q 4 (by rfl) (by kernel_rfl) ?_; go_big_quiet_step (fail); refine wpQuiet_nil ?_
          refine Plan.left_q 5 (by rfl) (by kernel_rfl) ?_; go_big_quiet_step (fail); refine wpQuiet_nil ?_
          refine Plan.left_q 6 (by rfl) (by kernel_rfl) ?_; go_big_quiet_step (fail); refine wpQuiet_nil ?_
          refine Plan.left_q 7 (by rfl) (by kernel_rfl) ?_; go_big_quiet_step (fail); refine wpQuiet_nil ?_
          refine Plan.left_q 8 (by rfl) (by kernel_rfl) ?_; go_big_quiet_step (fail); refine wpQuiet_nil ?_
          refine Plan.left_one 3 (by kernel_rfl) (by rfl) (Plan.plain rfl fun K hK => ?_)
          go_wp2_with (fail)
          refine (C7.out _).mono ?_
          rintro e w7 ⟨rfl, h7⟩
          have H7 := ExtM.trans _ _ _ (ExtM.refl _).drew h7
          obtain ⟨hc7, hf7, -⟩ := Ext.rules H7
          have hs7_0 : w.heap.size < w7.heap.size := by have := H7.size; (try simp at this); omega
          have hs7_1 : w.heap.size + 1 < w7.heap.size := by have := H7.size; (try simp at this); omega
          have hs7_2 : w.heap.size + 2 < w7.heap.size := by have := H7.size; (try simp at this); omega
          have hs7_3 : w.heap.size + 3 < w7.heap.size := by have := H7.size; (try simp at this); omega
          have hs7_4 : w.heap.size + 4 < w7.heap.size := by have := H7.size; (try simp at this); omega
          go_wp2_with (fail)
          refine hK _ _ h7 ?_
          clear hK K
          refine Plan.left_q 9 (by rfl) (by kernel_rfl) ?_; go_big_quiet_step (fail); refine wpQuiet_nil ?_
          refine Plan.left_q 10 (by rfl) (by kernel_rfl) ?_; go_big_quiet_step (fail); refine wpQuiet_nil ?_
          refine Plan.left_q 11 (by rfl) (by kernel_rfl) ?_; go_big_quiet_step (fail); refine wpQuiet_nil ?_
          refine Plan.left_q 12 (by rfl) (by kernel_rfl) ?_; go_big_quiet_step (fail); refine wpQuiet_nil ?_
          refine Plan.left_q 13 (by rfl) (by kernel_rfl) ?_; go_big_quiet_step (fail); refine wpQuiet_nil ?_
          refine Plan.left_q 14 (by rfl) (by kernel_rfl) ?_; go_big_quiet_step (fail); refine wpQuiet_nil ?_
          refine Plan.left_q 15 (by rfl) (by kernel_rfl) ?_; go_big_quiet_step (fail); refine wpQuiet_nil ?_
          refine Plan.left_q 16 (by rfl) (by kernel_rfl) ?_; go_big_quiet_step (fail); refine wpQuiet_nil ?_
          refine Plan.left_q 17 (by rfl) (by kernel_rfl) ?_; go_big_quiet_step (fail); refine wpQuiet_nil ?_
          refine Plan.left_q 18 (by rfl) (by kernel_rfl) ?_; go_big_quiet_step (fail); refine wpQuiet_nil ?_
          refine Plan.left_q 19 (by rfl) (by kernel_rfl) ?_; go_big_quiet_step (fail); refine wpQuiet_nil ?_
          refine Plan.left_q 20 (by rfl) (by kernel_rfl) ?_; go_big_quiet_step (fail); refine wpQuiet_nil ?_
          refine Plan.left_q 21 (by rfl) (by kernel_rfl) ?_; go_big_quiet_step (fail); refine wpQuiet_nil ?_
          refine Plan.left_q 22 (by rfl) (by kernel_rfl) ?_; go_big_quiet_step (fail); refine wpQuiet_nil ?_
          refine Plan.left_done (by kernel_rfl) ?_
          go_wp2_with fail
          go_ret
          exact ⟨ret_bool (by simp [*]), ExtM.trans _ _ _ fin.drew h7⟩
      · have q2' : decide (lo ≤ wrap64 (rt - lt)) = false := by simpa using q2
        refine Plan.begin Plan.Ext 23 rfl (by kernel_rfl) ?_
        refine Plan.left_q 0 (by rfl) (by kernel_rfl) ?_; go_big_quiet_step (fail); refine wpQuiet_nil ?_
        refine Plan.left_q 1 (by rfl) (by kernel_rfl) ?_; go_big_quiet_step (fail); refine wpQuiet_nil ?_
        refine Plan.left_q 2 (by rfl) (by kernel_rfl) ?_; go_big_quiet_step (fail); refine wpQuiet_nil ?_
        refine Plan.left_q 4 (by rfl) (by kernel_rfl) ?_; go_big_quiet_step (fail); refine wpQuiet_nil ?_
        refine Plan.left_q 5 (by rfl) (by kernel_rfl) ?_; go_big_quiet_step (fail); refine wpQuiet_nil ?_
        refine Plan.left_q 6 (by rfl) (by kernel_rfl) ?_; go_big_quiet_step (fail); refine wpQuiet_nil ?_
        refine Plan.left_q 7 (by rfl) (by kernel_rfl) ?_; go_big_quiet_step (fail); refine wpQuiet_nil ?_
        refine Plan.left_q 8 (by rfl) (by kernel_rfl) ?_; go_big_quiet_step (fail); refine wpQuiet_nil ?_
        refine Plan.left_one 3 (by kernel_rfl) (by rfl) (Plan.plain rfl fun K hK => ?_)
        go_wp2_with (fail)
        refine (C7.out _).mono ?_
        rintro e w7 ⟨rfl, h7⟩
        have H7 := ExtM.trans _ _ _ (ExtM.refl _).drew h7
        obtain ⟨hc7, hf7, -⟩ := Ext.rules H7
        have hs7_0 : w.heap.size < w7.heap.size := by have := H7.size; (try simp at this); omega
        have hs7_1 : w.heap.size + 1 < w7.heap.size := by have := H7.size; (try simp at this); omega
        have hs7_2 : w.heap.size + 2 < w7.heap.size := by have := H7.size; (try simp at this); omega
        have hs7_3 : w.heap.size + 3 < w7.heap.size := by have := H7.size; (try simp at this); omega
        have hs7_4 : w.heap.size + 4 < w7.heap.size := by have := H7.size; (try simp at this); omega
        go_wp2_with (fail)
        refine hK _ _ h7 ?_
        clear hK K
        refine Plan.left_q 9 (by rfl) (by kernel_rfl) ?_; go_big_quiet_step (fail); refine wpQuiet_nil ?_
        refine Plan.left_q 10 (by rfl) (by kernel_rfl) ?_; go_big_quiet_step (fail); refine wpQuiet_nil ?_
        refine Plan.left_q 11 (by rfl) (by kernel_rfl) ?_; go_big_quiet_step (fail); refine wpQuiet_nil ?_
        refine Plan.left_q 12 (by rfl) (by kernel_rfl) ?_; go_big_quiet_step (fail); refine wpQuiet_nil ?_
        refine Plan.left_q 13 (by rfl) (by kernel_rfl) ?_; go_big_quiet_step (fail); refine wpQuiet_nil ?_
        refine Plan.left_q 14 (by rfl) (by kernel_rfl) ?_; go_big_quiet_step (fail); refine wpQuiet_nil ?_
        refine Plan.left_q 15 (by rfl) (by kernel_rfl) ?_; go_big_quiet_step (fail); refine wpQuiet_nil ?_
        refine Plan.left_q 16 (by rfl) (by kernel_rfl) ?_; go_big_quiet_step (fail); refine wpQuiet_nil ?_
        refine Plan.left_q 17 (by rfl) (by kernel_rfl) ?_; go_big_quiet_step (fail); refine wpQuiet_nil ?_
        refine Plan.left_q 18 (by rfl) (by kernel_rfl) ?_; go_big_quiet_step (fail); refine wpQuiet_nil ?_
        refine Plan.left_q 19 (by rfl) (by kernel_rfl) ?_; go_big_quiet_step (fail); refine wpQuiet_nil ?_
        refine Plan.left_q 20 (by rfl) (by kernel_rfl) ?_; go_big_quiet_step (fail); refine wpQuiet_nil ?_
        refine Plan.left_q 21 (by rfl) (by kernel_rfl) ?_; go_big_quiet_step (fail); refine wpQuiet_nil ?_
        refine Plan.left_q 22 (by rfl) (by kernel_rfl) ?_; go_big_quiet_step (fail); refine wpQuiet_nil ?_
        refine Plan.left_done (by kernel_rfl) ?_
        go_wp2_with fail
        go_ret
        exact ⟨ret_bool (by simp [*]), ExtM.trans _ _ _ fin.drew h7⟩
    · have q1' : (lk == rk) = false := by simpa using q1
      skip
      refine Plan.begin Plan.Ext 23 rfl (by kernel_rfl) ?_
      refine Plan.left_q 0 (by rfl) (by kernel_rfl) ?_; go_big_quiet_step (fail); refine wpQuiet_nil ?_
      refine Plan.left_q 1 (by rfl) (by kernel_rfl) ?_; go_big_quiet_step (fail); refine wpQuiet_nil ?_
      refine Plan.left_q 2 (by rfl) (by kernel_rfl) ?_; go_big_quiet_step (fail); refine wpQuiet_nil ?_
      refine Plan.left_q 4 (by rfl) (by kernel_rfl) ?_; go_big_quiet_step (fail); refine wpQuiet_nil ?_
      refine Plan.left_q 5 (by rfl) (by kernel_rfl) ?_; go_big_quiet_step (fail); refine wpQuiet_nil ?_
      refine Plan.left_q 6 (by rfl) (by kernel_rfl) ?_; go_big_quiet_step (fail); refine wpQuiet_nil ?_
      refine Plan.left_q 7 (by rfl) (by kernel_rfl) ?_; go_big_quiet_step (fail); refine wpQuiet_nil ?_
      refine Plan.left_q 8 (by rfl) (by kernel_rfl) ?_; go_big_quiet_step (fail); refine wpQuiet_nil ?_
      refine Plan.left_one 3 (by kernel_rfl) (by rfl) (Plan.plain rfl fun K hK => ?_)
      go_wp2_with (fail)
      refine (C7.out _).mono ?_
      rintro e w7 ⟨rfl, h7⟩
      have H7 := ExtM.trans _ _ _ (ExtM.refl _).drew h7
      obtain ⟨hc7, hf7, -⟩ := Ext.rules H7
      have hs7_0 : w.heap.size < w7.heap.size := by have := H7.size; (try simp at this); omega
      have hs7_1 : w.heap.size + 1 < w7.heap.size := by have := H7.size; (try simp at this); omega
      have hs7_2 : w.heap.size + 2 < w7.heap.size := by have := H7.size; (try simp at this); omega
      have hs7_3 : w.heap.size + 3 < w7.heap.size := by have := H7.size; (try simp at this); omega
      have hs7_4 : w.heap.size + 4 < w7.heap.size := by have := H7.size; (try simp at this); omega
      go_wp2_with (fail)
      refine hK _ _ h7 ?_
      clear hK K
      refine Plan.left_q 9 (by rfl) (by kernel_rfl) ?_; go_big_quiet_step (fail); refine wpQuiet_nil ?_
      refine Plan.left_q 10 (by rfl) (by kernel_rfl) ?_; go_big_quiet_step (fail); refine wpQuiet_nil ?_
      refine Plan.left_q 11 (by rfl) (by kernel_rfl) ?_; go_big_quiet_step (fail); refine wpQuiet_nil ?_
      refine Plan.left_q 12 (by rfl) (by kernel_rfl) ?_; go_big_quiet_step (fail); refine wpQuiet_nil ?_
      refine Plan.left_q 13 (by rfl) (by kernel_rfl) ?_; go_big_quiet_step (fail); refine wpQuiet_nil ?_
      refine Plan.left_q 14 (by rfl) (by kernel_rfl) ?_; go_big_quiet_step (fail); refine wpQuiet_nil ?_
      refine Plan.left_q 15 (by rfl) (by kernel_rfl) ?_; go_big_quiet_step (fail); refine wpQuiet_nil ?_
      refine Plan.left_q 16 (by rfl) (by kernel_rfl) ?_; go_big_quiet_step (fail); refine wpQuiet_nil ?_
      refine Plan.left_q 17 (by rfl) (by kernel_rfl) ?_; go_big_quiet_step (fail); refine wpQuiet_nil ?_
      refine Plan.left_q 18 (by rfl) (by kernel_rfl) ?_; go_big_quiet_step (fail); refine wpQuiet_nil ?_
      refine Plan.left_q 19 (by rfl) (by kernel_rfl) ?_; go_big_quiet_step (fail); refine wpQuiet_nil ?_
      refine Plan.left_q 20 (by rfl) (by kernel_rfl) ?_; go_big_quiet_step (fail); refine wpQuiet_nil ?_
      refine Plan.left_q 21 (by rfl) (by kernel_rfl) ?_; go_big_quiet_step (fail); refine wpQuiet_nil ?_
      refine Plan.left_q 22 (by rfl) (by kernel_rfl) ?_; go_big_quiet_step (fail); refine wpQuiet_nil ?_
      refine Plan.left_done (by kernel_rfl) ?_
      go_wp2_with fail
      go_ret
      exact ⟨ret_bool (by simp [*]), ExtM.trans _ _ _ fin.drew h7⟩

structure PlanR where
  lo : Int
  hi : Int
  mo : Int
def PlanR.ok (p : PlanR) : Prop := I64 p.lo ∧ I64 p.hi ∧ I64 p.mo

theorem rowOuts_w (a b : Out) (p : PlanR) (l r : Row) (s : Int) (_ : a.ok) (_ : b.ok) (_ : p.ok) (_ : l.ok) (_ : r.ok) (_ : I64 s) (w : World) :
    Calls Try.prog 4 #[.agg #[.int .i64 a.key, .int .i64 a.l.k, .int .i64 a.l.t, .int .i64 a.l.v, .int .i64 a.r.k, .int .i64 a.r.t, .int .i64 a.r.v, .bool a.hl, .bool a.hr], .agg #[.int .i64 b.key, .int .i64 b.l.k, .int .i64 b.l.t, .int .i64 b.l.v, .int .i64 b.r.k, .int .i64 b.r.t, .int .i64 b.r.v, .bool b.hl, .bool b.hr],
      .agg #[.int .i64 p.lo, .int .i64 p.hi, .int .i64 p.mo], .agg #[.int .i64 l.k, .int .i64 l.t, .int .i64 l.v], .agg #[.int .i64 r.k, .int .i64 r.t, .int .i64 r.v], .int .i64 s] w fun e w' => e = .returned (.bool true) ∧ Ext w w' :=
  rowOuts_core a.key a.l a.r a.hl a.hr b.key b.l b.r b.hl b.hr p.lo p.hi p.mo l.k l.t l.v r.k r.t r.v s w _ _ (fun w => rgood_c l.k l.t l.v w) (fun w => rgood_c r.k r.t r.v w)

open Go.ChangeShapes Go.WideShapes Go.ChangeAt Go.Joins Go.Deep in
set_option maxRecDepth 100000 in
theorem plan_arg {H : Type} {enc : TypeId × Value → H} {w : World} {base : Nat} {spare : Nat → Bool} {held : Bool} {r : Reach} {b0 : Nat} {v : Value} {d : DataW H} {p : List MemPlace} (hv : Value.okWide Try.prog w r b0 31 v) (h : DataW.Trod enc Try.prog w base spare held 31 v d p) :
    ∃ q : PlanR, v = .agg #[.int .i64 q.lo, .int .i64 q.hi, .int .i64 q.mo] ∧ q.ok := by
  obtain ⟨cs, rfl, hsz⟩ := okWide_struct Try.underlying31 hv
  obtain ⟨fuel, hf⟩ := h
  obtain ⟨y0, y1, y2, n, -, hl, h0, h1, h2⟩ := trod_struct3 Try.underlying31 hf
  obtain ⟨l⟩ := cs
  have cellsPlan : Try.prog.cellsOf 31 = 3 := by kernel_rfl
  rw [cellsPlan] at hl
  simp only [Value.cells] at hl h0 h1 h2
  match l, hl with
  | [c0, c1, c2], _ =>
    obtain ⟨a, rfl, wa⟩ := int_cell (c := c0) (by simpa [cellsInt] using h0)
    obtain ⟨b, rfl, wb⟩ := int_cell (c := c1) (by simpa [cellsInt] using h1)
    obtain ⟨c, rfl, wc⟩ := int_cell (c := c2) (by simpa [cellsInt] using h2)
    exact ⟨⟨a, b, c⟩, rfl, wa, wb, wc⟩
end Go.Proofs.Ytmdgobfghieneaa
