/- What the functions of the packages row and estuaryref (1.1) compute: contracts of each, the second part. -/
import Derived.Test.YtggjceolhbdalaaDoorRow
import Derived.Deep.AppendLies
namespace Go.Proofs.YtggjceolhbdalaaDoor
open Go.RowKit Go.Plan

theorem intsAt_ext {w w' : World} {b off : Nat} {xs : List Int} (h : intsAt w b off xs) (he : Ext w w') (hb : b < w.heap.size) : intsAt w' b off xs :=
  fun i hi => by rw [he.cell (p := ⟨b, off + i, none⟩) hb id]; exact h i hi

theorem intsAt_own {w : World} {base : Nat} {e : TypeId} {g n cap : Nat} {xs : List Int} (h : w.ownsRow base e 1 (.slice (some ⟨g, 0, none⟩) n cap) n (xs.map (Value.int .i64))) (hn : n = xs.length) : intsAt w g 0 xs := by
  intro i hi
  rw [Nat.zero_add, h.cellAt i (by omega)]
  simp [hi]

/-- A slice of these numbers, in memory that was not there. -/
def Ints (w : World) (xs : List Int) (e : Ending) (w' : World) : Prop :=
  ∃ b cap, e = .returned (.slice (some ⟨b, 0, none⟩) xs.length cap) ∧ intsAt w' b 0 xs ∧ w.heap.size ≤ b ∧ b < w'.heap.size ∧ Ext w w'

theorem list_c (k t v : Int) (w : World) :
    Calls Tryd.prog 76 #[.agg #[.int .i64 k, .int .i64 t, .int .i64 v]] w (Ints w [k, t, v]) := by
  go_enter Tryd.func76, Tryd.ntmps76
  go_wp2
  go_ret
  refine ⟨w.heap.size + 1, 3, rfl, ?_, by omega, by simp, ((ExtM.refl _).alloc _).alloc _⟩
  intro i hi; revert i; simp only [List.length_cons, List.length_nil]; intro i hi
  match i, hi with
  | 0, _ => go_simp
  | 1, _ => go_simp
  | 2, _ => go_simp

def rcompareI (k1 t1 v1 k2 t2 v2 : Int) : Int := ordI [k1, t1, v1] [k2, t2, v2]

def flagI (b : Bool) : Int := if b then 1 else 0

theorem flag_c (b : Bool) (w : World) : Calls Tryd.prog 68 #[.bool b] w fun e w' => e = .returned (.int .i64 (flagI b)) ∧ w = w' := by
  cases b
  · go_enter Tryd.func68, Tryd.ntmps68
    go_wp2
    go_ret
    exact ⟨rfl, rfl⟩
  · go_enter Tryd.func68, Tryd.ntmps68
    go_wp2
    go_ret
    exact ⟨rfl, rfl⟩

theorem one_c (b : Bool) (w : World) : Calls Tryd.prog 75 #[.bool b] w fun e w' => e = .returned (.int .i64 (flagI b)) ∧ w = w' := by
  cases b
  · go_enter Tryd.func75, Tryd.ntmps75
    go_wp2
    go_ret
    exact ⟨rfl, rfl⟩
  · go_enter Tryd.func75, Tryd.ntmps75
    go_wp2
    go_ret
    exact ⟨rfl, rfl⟩

/-! ### what comes of rows -/
structure Row where
  k : Int
  t : Int
  v : Int
  deriving DecidableEq

structure Out where
  key : Int
  l : Row
  r : Row
  hl : Bool
  hr : Bool
  deriving DecidableEq

def compareOutI (a b : Out) : Int :=
  orI [cmpI a.key b.key, cmpI (flagI a.hl) (flagI b.hl), compareI a.l.k a.l.t a.l.v b.l.k b.l.t b.l.v, cmpI (flagI a.hr) (flagI b.hr), compareI a.r.k a.r.t a.r.v b.r.k b.r.t b.r.v]

theorem compareOut_c (a b : Out) (w : World) :
    Calls Tryd.prog 44 #[.agg #[.int .i64 a.key, .int .i64 a.l.k, .int .i64 a.l.t, .int .i64 a.l.v, .int .i64 a.r.k, .int .i64 a.r.t, .int .i64 a.r.v, .bool a.hl, .bool a.hr], .agg #[.int .i64 b.key, .int .i64 b.l.k, .int .i64 b.l.t, .int .i64 b.l.v, .int .i64 b.r.k, .int .i64 b.r.t, .int .i64 b.r.v, .bool b.hl, .bool b.hr]] w fun e w' =>
      e = .returned (.int .i64 (compareOutI a b)) ∧ Ext w w' := by
  unfold compareOutI
  obtain ⟨k1, ⟨lk1, lt1, lv1⟩, ⟨rk1, rt1, rv1⟩, hl1, hr1⟩ := a
  obtain ⟨k2, ⟨lk2, lt2, lv2⟩, ⟨rk2, rt2, rv2⟩, hl2, hr2⟩ := b
  simp only
  go_enter Tryd.func44, Tryd.ntmps44
  go_wp2_with fail
  refine Plan.begin Plan.Ext 32 rfl (by kernel_rfl) ?_
  refine Plan.left_q 0 (by rfl) (by kernel_rfl) ?_; go_big_quiet_step (fail); refine wpQuiet_nil ?_
  refine Plan.left_q 1 (by rfl) (by kernel_rfl) ?_; go_big_quiet_step (fail); refine wpQuiet_nil ?_
  refine Plan.left_q 2 (by rfl) (by kernel_rfl) ?_; go_big_quiet_step (fail); refine wpQuiet_nil ?_
  refine Plan.left_q 3 (by rfl) (by kernel_rfl) ?_; go_big_quiet_step (fail); refine wpQuiet_nil ?_
  refine Plan.left_q 5 (by rfl) (by kernel_rfl) ?_; go_big_quiet_step (fail); refine wpQuiet_nil ?_
  refine Plan.left_q 6 (by rfl) (by kernel_rfl) ?_; go_big_quiet_step (fail); refine wpQuiet_nil ?_
  refine Plan.left_q 8 (by rfl) (by kernel_rfl) ?_; go_big_quiet_step (fail); refine wpQuiet_nil ?_
  refine Plan.left_q 9 (by rfl) (by kernel_rfl) ?_; go_big_quiet_step (fail); refine wpQuiet_nil ?_
  refine Plan.left_q 12 (by rfl) (by kernel_rfl) ?_; go_big_quiet_step (fail); refine wpQuiet_nil ?_
  refine Plan.left_q 13 (by rfl) (by kernel_rfl) ?_; go_big_quiet_step (fail); refine wpQuiet_nil ?_
  refine Plan.left_q 14 (by rfl) (by kernel_rfl) ?_; go_big_quiet_step (fail); refine wpQuiet_nil ?_
  refine Plan.left_q 15 (by rfl) (by kernel_rfl) ?_; go_big_quiet_step (fail); refine wpQuiet_nil ?_
  refine Plan.left_q 17 (by rfl) (by kernel_rfl) ?_; go_big_quiet_step (fail); refine wpQuiet_nil ?_
  refine Plan.left_q 18 (by rfl) (by kernel_rfl) ?_; go_big_quiet_step (fail); refine wpQuiet_nil ?_
  refine Plan.left_q 20 (by rfl) (by kernel_rfl) ?_; go_big_quiet_step (fail); refine wpQuiet_nil ?_
  refine Plan.left_q 21 (by rfl) (by kernel_rfl) ?_; go_big_quiet_step (fail); refine wpQuiet_nil ?_
  refine Plan.left_q 24 (by rfl) (by kernel_rfl) ?_; go_big_quiet_step (fail); refine wpQuiet_nil ?_
  refine Plan.left_q 25 (by rfl) (by kernel_rfl) ?_; go_big_quiet_step (fail); refine wpQuiet_nil ?_
  refine Plan.left_q 26 (by rfl) (by kernel_rfl) ?_; go_big_quiet_step (fail); refine wpQuiet_nil ?_
  refine Plan.left_q 27 (by rfl) (by kernel_rfl) ?_; go_big_quiet_step (fail); refine wpQuiet_nil ?_
  refine Plan.left_one 4 (by kernel_rfl) (by rfl) (Plan.plain rfl fun K hK => ?_)
  go_wp2_with (fail)
  refine (cmp_c _ _ _).mono ?_
  rintro e w' ⟨rfl, rfl⟩
  go_wp2_with (fail)
  refine hK _ _ (ExtM.refl _) ?_
  clear hK K
  refine Plan.left_one 7 (by kernel_rfl) (by rfl) (Plan.plain rfl fun K hK => ?_)
  go_wp2_with (fail)
  refine (flag_c _ _).mono ?_
  rintro e w' ⟨rfl, rfl⟩
  go_wp2_with (fail)
  refine hK _ _ (ExtM.refl _) ?_
  clear hK K
  refine Plan.left_one 10 (by kernel_rfl) (by rfl) (Plan.plain rfl fun K hK => ?_)
  go_wp2_with (fail)
  refine (flag_c _ _).mono ?_
  rintro e w' ⟨rfl, rfl⟩
  go_wp2_with (fail)
  refine hK _ _ (ExtM.refl _) ?_
  clear hK K
  refine Plan.left_one 11 (by kernel_rfl) (by rfl) (Plan.plain rfl fun K hK => ?_)
  go_wp2_with (fail)
  refine (cmp_c _ _ _).mono ?_
  rintro e w' ⟨rfl, rfl⟩
  go_wp2_with (fail)
  refine hK _ _ (ExtM.refl _) ?_
  clear hK K
  refine Plan.left_one 16 (by kernel_rfl) (by rfl) (Plan.plain rfl fun K hK => ?_)
  go_wp2_with (fail)
  refine (compare_c _ _ _ _ _ _ _).mono ?_
  rintro e w1 ⟨rfl, h1⟩
  have H1 := ExtM.trans _ _ _ (ExtM.refl _).drew h1
  obtain ⟨hc1, hf1, -⟩ := Ext.rules H1
  have hs1_0 : w.heap.size < w1.heap.size := by have := H1.size; (try simp at this); omega
  have hs1_1 : w.heap.size + 1 < w1.heap.size := by have := H1.size; (try simp at this); omega
  go_wp2_with (fail)
  refine hK _ _ h1 ?_
  clear hK K
  refine Plan.left_one 19 (by kernel_rfl) (by rfl) (Plan.plain rfl fun K hK => ?_)
  go_wp2_with (fail)
  refine (flag_c _ _).mono ?_
  rintro e w' ⟨rfl, rfl⟩
  go_wp2_with (fail)
  refine hK _ _ (ExtM.refl _) ?_
  clear hK K
  refine Plan.left_one 22 (by kernel_rfl) (by rfl) (Plan.plain rfl fun K hK => ?_)
  go_wp2_with (fail)
  refine (flag_c _ _).mono ?_
  rintro e w' ⟨rfl, rfl⟩
  go_wp2_with (fail)
  refine hK _ _ (ExtM.refl _) ?_
  clear hK K
  refine Plan.left_one 23 (by kernel_rfl) (by rfl) (Plan.plain rfl fun K hK => ?_)
  go_wp2_with (fail)
  refine (cmp_c _ _ _).mono ?_
  rintro e w' ⟨rfl, rfl⟩
  go_wp2_with (fail)
  refine hK _ _ (ExtM.refl _) ?_
  clear hK K
  refine Plan.left_one 28 (by kernel_rfl) (by rfl) (Plan.plain rfl fun K hK => ?_)
  go_wp2_with (fail)
  refine (compare_c _ _ _ _ _ _ _).mono ?_
  rintro e w2 ⟨rfl, h2⟩
  clear hc1 hf1 hs1_0 hs1_1
  have H2 := ExtM.trans _ _ _ H1 h2
  obtain ⟨hc2, hf2, -⟩ := Ext.rules H2
  have hs2_0 : w.heap.size < w2.heap.size := by have := H2.size; (try simp at this); omega
  have hs2_1 : w.heap.size + 1 < w2.heap.size := by have := H2.size; (try simp at this); omega
  go_wp2_with (fail)
  refine hK _ _ h2 ?_
  clear hK K
  refine Plan.left_one 29 (by kernel_rfl) (by rfl) (Plan.plain rfl fun K hK => ?_)
  go_wp2_with (fail)
  refine hK _ _ ((ExtM.refl _).alloc _) ?_
  clear hK K
  refine Plan.left_one 30 (by kernel_rfl) (by rfl) (Plan.plain rfl fun K hK => ?_)
  go_wp2_with (fail)
  refine (or_c [cmpI k1 k2, cmpI (flagI hl1) (flagI hl2), compareI lk1 lt1 lv1 lk2 lt2 lv2, cmpI (flagI hr1) (flagI hr2), compareI rk1 rt1 rv1 rk2 rt2 rv2] _ _ _ _ ?_ (by simp)).mono ?_
  · intro i hi; simp only [List.length_cons, List.length_nil] at hi; have hi5 : i = 0 ∨ i = 1 ∨ i = 2 ∨ i = 3 ∨ i = 4 := (by omega); rcases hi5 with rfl | rfl | rfl | rfl | rfl <;> first | (exfalso; omega) | go_simp
  rintro e w' ⟨rfl, rfl⟩
  go_wp2_with (fail)
  refine hK _ _ (ExtM.refl _) ?_
  clear hK K
  refine Plan.left_q 31 (by rfl) (by kernel_rfl) ?_; go_big_quiet_step (fail); refine wpQuiet_nil ?_
  refine Plan.left_done (by kernel_rfl) ?_
  go_wp2
  go_ret
  exact ⟨rfl, by repeat (first | exact ExtM.refl _ | refine ExtM.drew ?_ | refine ExtM.alloc ?_ _ | refine ExtM.trans _ _ _ ?_ (by assumption))⟩
end Go.Proofs.YtggjceolhbdalaaDoor
