/- What the functions of the packages row and estuaryref (1.1) compute: contracts of each, the second part. The reference's order of what comes of rows (1.1). What the functions of the packages row and estuaryref (1.1) compute: contracts of each, the last part. -/
import Derived.Test.YtggjceolhbdalaaDoorRow
import Derived.Deep.AppendLies
-- Row2
namespace Go.Proofs.YtggjceolhbdalaaDoor
open Go.RowKit Go.Plan

theorem intsAt_ext {w w' : World} {b off : Nat} {xs : List Int} (h : intsAt w b off xs) (he : Ext w w') (hb : b < w.heap.size) : intsAt w' b off xs :=
  fun i hi => by rw [he.cell (p := ⟨b, off + i, none⟩) hb id]; exact h i hi

theorem intsAt_own {w : World} {base : Nat} {e : TypeId} {g n cap : Nat} {xs : List Int} (h : w.ownsRow base e 1 (.slice (some ⟨g, 0, none⟩) n cap) n (xs.map (Value.int .i64))) (hn : n = xs.length) : intsAt w g 0 xs := by
  intro i hi
  rw [Nat.zero_add, h.cellAt i (by omega)]
  simp [hi]

/-- A slice of these numbers, in memory that was not there. -/
def Ints (w : World) (xs : List Int) (e : Ending) (w' : World) : Prop :=
  ∃ b cap, e = .returned (.slice (some ⟨b, 0, none⟩) xs.length cap) ∧ intsAt w' b 0 xs ∧ w.heap.size ≤ b ∧ b < w'.heap.size ∧ Ext w w'

theorem list_c (k t v : Int) (w : World) :
    Calls Tryd.prog 76 #[.agg #[.int .i64 k, .int .i64 t, .int .i64 v]] w (Ints w [k, t, v]) := by
  go_enter Tryd.func76, Tryd.ntmps76
  go_wp2
  go_ret
  refine ⟨w.heap.size + 1, 3, rfl, ?_, by omega, by simp, ((ExtM.refl _).alloc _).alloc _⟩
  intro i hi; revert i; simp only [List.length_cons, List.length_nil]; intro i hi
  match i, hi with
  | 0, _ => go_simp
  | 1, _ => go_simp
  | 2, _ => go_simp

def rcompareI (k1 t1 v1 k2 t2 v2 : Int) : Int := ordI [k1, t1, v1] [k2, t2, v2]

def flagI (b : Bool) : Int := if b then 1 else 0

theorem flag_c (b : Bool) (w : World) : Calls Tryd.prog 68 #[.bool b] w fun e w' => e = .returned (.int .i64 (flagI b)) ∧ w = w' := by
  cases b
  · go_enter Tryd.func68, Tryd.ntmps68
    go_wp2
    go_ret
    exact ⟨rfl, rfl⟩
  · go_enter Tryd.func68, Tryd.ntmps68
    go_wp2
    go_ret
    exact ⟨rfl, rfl⟩

theorem one_c (b : Bool) (w : World) : Calls Tryd.prog 75 #[.bool b] w fun e w' => e = .returned (.int .i64 (flagI b)) ∧ w = w' := by
  cases b
  · go_enter Tryd.func75, Tryd.ntmps75
    go_wp2
    go_ret
    exact ⟨rfl, rfl⟩
  · go_enter Tryd.func75, Tryd.ntmps75
    go_wp2
    go_ret
    exact ⟨rfl, rfl⟩

/-! ### what comes of rows -/
structure Row where
  k : Int
  t : Int
  v : Int
  deriving DecidableEq

structure Out where
  key : Int
  l : Row
  r : Row
  hl : Bool
  hr : Bool
  deriving DecidableEq

def compareOutI (a b : Out) : Int :=
  orI [cmpI a.key b.key, cmpI (flagI a.hl) (flagI b.hl), compareI a.l.k a.l.t a.l.v b.l.k b.l.t b.l.v, cmpI (flagI a.hr) (flagI b.hr), compareI a.r.k a.r.t a.r.v b.r.k b.r.t b.r.v]

theorem compareOut_c (a b : Out) (w : World) :
    Calls Tryd.prog 44 #[.agg #[.int .i64 a.key, .int .i64 a.l.k, .int .i64 a.l.t, .int .i64 a.l.v, .int .i64 a.r.k, .int .i64 a.r.t, .int .i64 a.r.v, .bool a.hl, .bool a.hr], .agg #[.int .i64 b.key, .int .i64 b.l.k, .int .i64 b.l.t, .int .i64 b.l.v, .int .i64 b.r.k, .int .i64 b.r.t, .int .i64 b.r.v, .bool b.hl, .bool b.hr]] w fun e w' =>
      e = .returned (.int .i64 (compareOutI a b)) ∧ Ext w w' := by
  unfold compareOutI
  obtain ⟨k1, ⟨lk1, lt1, lv1⟩, ⟨rk1, rt1, rv1⟩, hl1, hr1⟩ := a
  obtain ⟨k2, ⟨lk2, lt2, lv2⟩, ⟨rk2, rt2, rv2⟩, hl2, hr2⟩ := b
  simp only
  go_enter Tryd.func44, Tryd.ntmps44
  go_wp2_with fail
  refine Plan.begin Plan.Ext 32 rfl (by kernel_rfl) ?_
  refine Plan.left_q 0 (by rfl) (by kernel_rfl) ?_; go_big_quiet_step (fail); refine wpQuiet_nil ?_
  refine Plan.left_q 1 (by rfl) (by kernel_rfl) ?_; go_big_quiet_step (fail); refine wpQuiet_nil ?_
  refine Plan.left_q 2 (by rfl) (by kernel_rfl) ?_; go_big_quiet_step (fail); refine wpQuiet_nil ?_
  refine Plan.left_q 3 (by rfl) (by kernel_rfl) ?_; go_big_quiet_step (fail); refine wpQuiet_nil ?_
  refine Plan.left_q 5 (by rfl) (by kernel_rfl) ?_; go_big_quiet_step (fail); refine wpQuiet_nil ?_
  refine Plan.left_q 6 (by rfl) (by kernel_rfl) ?_; go_big_quiet_step (fail); refine wpQuiet_nil ?_
  refine Plan.left_q 8 (by rfl) (by kernel_rfl) ?_; go_big_quiet_step (fail); refine wpQuiet_nil ?_
  refine Plan.left_q 9 (by rfl) (by kernel_rfl) ?_; go_big_quiet_step (fail); refine wpQuiet_nil ?_
  refine Plan.left_q 12 (by rfl) (by kernel_rfl) ?_; go_big_quiet_step (fail); refine wpQuiet_nil ?_
  refine Plan.left_q 13 (by rfl) (by kernel_rfl) ?_; go_big_quiet_step (fail); refine wpQuiet_nil ?_
  refine Plan.left_q 14 (by rfl) (by kernel_rfl) ?_; go_big_quiet_step (fail); refine wpQuiet_nil ?_
  refine Plan.left_q 15 (by rfl) (by kernel_rfl) ?_; go_big_quiet_step (fail); refine wpQuiet_nil ?_
  refine Plan.left_q 17 (by rfl) (by kernel_rfl) ?_; go_big_quiet_step (fail); refine wpQuiet_nil ?_
  refine Plan.left_q 18 (by rfl) (by kernel_rfl) ?_; go_big_quiet_step (fail); refine wpQuiet_nil ?_
  refine Plan.left_q 20 (by rfl) (by kernel_rfl) ?_; go_big_quiet_step (fail); refine wpQuiet_nil ?_
  refine Plan.left_q 21 (by rfl) (by kernel_rfl) ?_; go_big_quiet_step (fail); refine wpQuiet_nil ?_
  refine Plan.left_q 24 (by rfl) (by kernel_rfl) ?_; go_big_quiet_step (fail); refine wpQuiet_nil ?_
  refine Plan.left_q 25 (by rfl) (by kernel_rfl) ?_; go_big_quiet_step (fail); refine wpQuiet_nil ?_
  refine Plan.left_q 26 (by rfl) (by kernel_rfl) ?_; go_big_quiet_step (fail); refine wpQuiet_nil ?_
  refine Plan.left_q 27 (by rfl) (by kernel_rfl) ?_; go_big_quiet_step (fail); refine wpQuiet_nil ?_
  refine Plan.left_one 4 (by kernel_rfl) (by rfl) (Plan.plain rfl fun K hK => ?_)
  go_wp2_with (fail)
  refine (cmp_c _ _ _).mono ?_
  rintro e w' ⟨rfl, rfl⟩
  go_wp2_with (fail)
  refine hK _ _ (ExtM.refl _) ?_
  clear hK K
  refine Plan.left_one 7 (by kernel_rfl) (by rfl) (Plan.plain rfl fun K hK => ?_)
  go_wp2_with (fail)
  refine (flag_c _ _).mono ?_
  rintro e w' ⟨rfl, rfl⟩
  go_wp2_with (fail)
  refine hK _ _ (ExtM.refl _) ?_
  clear hK K
  refine Plan.left_one 10 (by kernel_rfl) (by rfl) (Plan.plain rfl fun K hK => ?_)
  go_wp2_with (fail)
  refine (flag_c _ _).mono ?_
  rintro e w' ⟨rfl, rfl⟩
  go_wp2_with (fail)
  refine hK _ _ (ExtM.refl _) ?_
  clear hK K
  refine Plan.left_one 11 (by kernel_rfl) (by rfl) (Plan.plain rfl fun K hK => ?_)
  go_wp2_with (fail)
  refine (cmp_c _ _ _).mono ?_
  rintro e w' ⟨rfl, rfl⟩
  go_wp2_with (fail)
  refine hK _ _ (ExtM.refl _) ?_
  clear hK K
  refine Plan.left_one 16 (by kernel_rfl) (by rfl) (Plan.plain rfl fun K hK => ?_)
  go_wp2_with (fail)
  refine (compare_c _ _ _ _ _ _ _).mono ?_
  rintro e w1 ⟨rfl, h1⟩
  have H1 := ExtM.trans _ _ _ (ExtM.refl _).drew h1
  obtain ⟨hc1, hf1, -⟩ := Ext.rules H1
  have hs1_0 : w.heap.size < w1.heap.size := by have := H1.size; (try simp at this); omega
  have hs1_1 : w.heap.size + 1 < w1.heap.size := by have := H1.size; (try simp at this); omega
  go_wp2_with (fail)
  refine hK _ _ h1 ?_
  clear hK K
  refine Plan.left_one 19 (by kernel_rfl) (by rfl) (Plan.plain rfl fun K hK => ?_)
  go_wp2_with (fail)
  refine (flag_c _ _).mono ?_
  rintro e w' ⟨rfl, rfl⟩
  go_wp2_with (fail)
  refine hK _ _ (ExtM.refl _) ?_
  clear hK K
  refine Plan.left_one 22 (by kernel_rfl) (by rfl) (Plan.plain rfl fun K hK => ?_)
  go_wp2_with (fail)
  refine (flag_c _ _).mono ?_
  rintro e w' ⟨rfl, rfl⟩
  go_wp2_with (fail)
  refine hK _ _ (ExtM.refl _) ?_
  clear hK K
  refine Plan.left_one 23 (by kernel_rfl) (by rfl) (Plan.plain rfl fun K hK => ?_)
  go_wp2_with (fail)
  refine (cmp_c _ _ _).mono ?_
  rintro e w' ⟨rfl, rfl⟩
  go_wp2_with (fail)
  refine hK _ _ (ExtM.refl _) ?_
  clear hK K
  refine Plan.left_one 28 (by kernel_rfl) (by rfl) (Plan.plain rfl fun K hK => ?_)
  go_wp2_with (fail)
  refine (compare_c _ _ _ _ _ _ _).mono ?_
  rintro e w2 ⟨rfl, h2⟩
  clear hc1 hf1 hs1_0 hs1_1
  have H2 := ExtM.trans _ _ _ H1 h2
  obtain ⟨hc2, hf2, -⟩ := Ext.rules H2
  have hs2_0 : w.heap.size < w2.heap.size := by have := H2.size; (try simp at this); omega
  have hs2_1 : w.heap.size + 1 < w2.heap.size := by have := H2.size; (try simp at this); omega
  go_wp2_with (fail)
  refine hK _ _ h2 ?_
  clear hK K
  refine Plan.left_one 29 (by kernel_rfl) (by rfl) (Plan.plain rfl fun K hK => ?_)
  go_wp2_with (fail)
  refine hK _ _ ((ExtM.refl _).alloc _) ?_
  clear hK K
  refine Plan.left_one 30 (by kernel_rfl) (by rfl) (Plan.plain rfl fun K hK => ?_)
  go_wp2_with (fail)
  refine (or_c [cmpI k1 k2, cmpI (flagI hl1) (flagI hl2), compareI lk1 lt1 lv1 lk2 lt2 lv2, cmpI (flagI hr1) (flagI hr2), compareI rk1 rt1 rv1 rk2 rt2 rv2] _ _ _ _ ?_ (by simp)).mono ?_
  · intro i hi; simp only [List.length_cons, List.length_nil] at hi; have hi5 : i = 0 ∨ i = 1 ∨ i = 2 ∨ i = 3 ∨ i = 4 := (by omega); rcases hi5 with rfl | rfl | rfl | rfl | rfl <;> first | (exfalso; omega) | go_simp
  rintro e w' ⟨rfl, rfl⟩
  go_wp2_with (fail)
  refine hK _ _ (ExtM.refl _) ?_
  clear hK K
  refine Plan.left_q 31 (by rfl) (by kernel_rfl) ?_; go_big_quiet_step (fail); refine wpQuiet_nil ?_
  refine Plan.left_done (by kernel_rfl) ?_
  go_wp2
  go_ret
  exact ⟨rfl, by repeat (first | exact ExtM.refl _ | refine ExtM.drew ?_ | refine ExtM.alloc ?_ _ | refine ExtM.trans _ _ _ ?_ (by assumption))⟩
end Go.Proofs.YtggjceolhbdalaaDoor

-- Row3
namespace Go.Proofs.YtggjceolhbdalaaDoor
open Go.RowKit Go.Plan

theorem infoInt : (Tryd.prog.info? 3).map (fun i => (i.zero, i.size, i.bytes)) = some (some (.int .i64 0), 1, 8) := by kernel_rfl

theorem news_ints {w : World} {b : Nat} {xs : List Int} (h : intsAt w b 0 xs) : ∀ (j : Nat) (u : Value), (xs.map (Value.int .i64))[j]? = some u → w.cell? ((⟨b, 0, none⟩ : Addr).add j) = some u := fun j u hu => by
  have hadd : (⟨b, 0, none⟩ : Addr).add j = ⟨b, j, none⟩ := by unfold Addr.add; split <;> simp_all
  rw [List.getElem?_map, Option.map_eq_some_iff] at hu
  obtain ⟨x, hx, rfl⟩ := hu
  have hj : j < xs.length := (List.getElem?_eq_some_iff.1 hx).1
  have := h j hj
  rw [Nat.zero_add] at this
  rw [hadd, this]
  simp [List.getD, hx]

theorem one_ints (xs : List Int) : ∀ u ∈ xs.map (Value.int .i64), u.oneCell' = true := by
  intro u hu; obtain ⟨x, _, rfl⟩ := List.mem_map.1 hu; rfl

/-- 'append(v, x...)' of ints of the call's own, at an operation. -/
theorem wp_append_ints {o : Oper} {a : Act} {w : World} {K : Act → World → Prop} {Q : Exit → Act → World → Prop} (s x : Operand)
    (ho : o.op = .call { callee := .builtin .append, args := #[s, x], argTypes := #[106, 106] })
    (base g n c : Nat) (xs : List Int) (hs : a.eval s = .slice (some ⟨g, 0, none⟩) n c) (hown : w.ownsRow base 3 1 (.slice (some ⟨g, 0, none⟩) n c) n (xs.map (Value.int .i64)))
    (b m c2 : Nat) (news : List Int) (hx : a.eval x = .slice (some ⟨b, 0, none⟩) m c2) (hl : news.length = m) (hnews : intsAt w b 0 news)
    (hm : 0 < m) (h63 : n + m ≤ 1000) (hbase : base ≤ w.heap.size)
    (h : ∀ g' cap w', w'.ownsRow base 3 1 (.slice (some ⟨g', 0, none⟩) (n + m) cap) (n + m) ((xs ++ news).map (Value.int .i64)) → w.grownBy w' (some g) → (g' = g ∨ g' = w.heap.size) → g' < w'.heap.size → K (a.put o.dst (.slice (some ⟨g', 0, none⟩) (n + m) cap)) w') : o.wp Tryd.prog a w K Q := by
  obtain ⟨i0, hi, hz0, hz1, hz2⟩ := info_parts infoInt
  refine wp_append_lies w s x 106 ho base 3 i0 (.int .i64 0) 1 8 Tryd.underlying106 hi hz0 hz1 hz2 rfl (by decide) _ n _ hs hown ⟨b, 0, none⟩ m c2 (news.map (Value.int .i64)) hx (by simp [hl]) (news_ints hnews) (one_ints _) hm (by unfold maxLen; omega) (by omega) hbase _ rfl ?_
  intro g' cap w' h1 h2 h3 h4
  refine h g' cap w' (by rw [List.map_append]; exact h1) h2 (by rcases h3 with h3 | h3; left; simp [Value.ownBlock] at h3; exact h3.symm; right; exact h3) h4

theorem owns_new {w : World} {xs : List Int} {n g : Nat} (hn : n = xs.length) (hm : n ≤ 1000) {base : Nat} (hb : base ≤ w.heap.size) (hg : w.heap.size = g) : (w.alloc (.cells (xs.map (Value.int .i64)).toArray 3)).ownsRow base 3 1 (.slice (some ⟨g, 0, none⟩) n n) n (xs.map (Value.int .i64)) := by
  subst hg
  refine ⟨by simp [hn], .inr ⟨w.heap.size, n, _, rfl, hb, heap_alloc_new w _, Nat.le_refl _, by unfold maxLen; omega, by simp [hn], by simp [hn, List.take_of_length_le]⟩⟩

theorem owns_ext {w w' : World} {base : Nat} {e : TypeId} {size n : Nat} {v : Value} {xs : List Value} (h : w.ownsRow base e size v n xs) (he : Ext w w') : w'.ownsRow base e size v n xs :=
  h.kept (row := none) ⟨he.os, he.tape, he.output, he.size, fun k hk _ => he.block k hk id⟩ (by cases hv : v.ownBlock <;> simp)

theorem intsAt_grown {w w' : World} {b : Nat} {row : Option Nat} {xs : List Int} (h : intsAt w b 0 xs) (hg : w.grownBy w' row) (hb : b < w.heap.size) (hne : some b ≠ row) : intsAt w' b 0 xs :=
  fun i hi => by rw [hg.cell_far ⟨b, 0 + i, none⟩ hb hne]; exact h i hi

def outI (a : Out) : List Int := [a.key, flagI a.hl, a.l.k, a.l.t, a.l.v, flagI a.hr, a.r.k, a.r.t, a.r.v]

set_option maxHeartbeats 400000 in
theorem rcompareOut1_c (a : Out) (w : World) :
    Calls Tryd.prog 74 #[.agg #[.int .i64 a.key, .int .i64 a.l.k, .int .i64 a.l.t, .int .i64 a.l.v, .int .i64 a.r.k, .int .i64 a.r.t, .int .i64 a.r.v, .bool a.hl, .bool a.hr]] w (Ints w (outI a)) := by
  unfold outI
  obtain ⟨k, ⟨lk, lt, lv⟩, ⟨rk, rt, rv⟩, hl, hr⟩ := a
  simp only
  go_enter Tryd.func74, Tryd.ntmps74
  go_wp2_with fail
  refine Plan.begin (Plan.ExtF (w.heap.size + 1)) 11 rfl (by kernel_rfl) ?_
  refine Plan.left_q 0 (by rfl) (by kernel_rfl) ?_; go_big_quiet_step (fail); refine wpQuiet_nil ?_
  refine Plan.left_q 1 (by rfl) (by kernel_rfl) ?_; go_big_quiet_step (fail); refine wpQuiet_nil ?_
  refine Plan.left_q 2 (by rfl) (by kernel_rfl) ?_; go_big_quiet_step (fail); refine wpQuiet_nil ?_
  refine Plan.left_q 3 (by rfl) (by kernel_rfl) ?_; go_big_quiet_step (fail); refine wpQuiet_nil ?_
  refine Plan.left_q 6 (by rfl) (by kernel_rfl) ?_; go_big_quiet_step (fail); refine wpQuiet_nil ?_
  refine Plan.left_q 7 (by rfl) (by kernel_rfl) ?_; go_big_quiet_step (fail); refine wpQuiet_nil ?_
  refine Plan.left_one 4 (by kernel_rfl) (by rfl) (Plan.plain rfl fun K hK => ?_)
  go_wp2_with (fail)
  refine (one_c _ _).mono ?_
  rintro e w' ⟨rfl, rfl⟩
  go_wp2_with (fail)
  refine hK _ _ (ExtF.refl _) ?_
  clear hK K
  generalize hX : Obj.cells #[.int .i64 k, .int .i64 lk, .int .i64 lt, .int .i64 lv, .int .i64 rk, .int .i64 rt, .int .i64 rv, .bool hl, .bool hr] 45 = X
  have HX : Hid (Obj.cells #[.int .i64 k, .int .i64 lk, .int .i64 lt, .int .i64 lv, .int .i64 rk, .int .i64 rt, .int .i64 rv, .bool hl, .bool hr] 45 = X) := hX
  clear hX
  refine Plan.left_two 5 8 (by kernel_rfl) (by rfl) (by rfl) (Plan.plain rfl fun K hK => ?_) (Plan.plain rfl fun K hK => ?_)
  case' refine_1 =>
    go_wp2_with (fail)
    refine hK _ _ ((ExtF.refl _).alloc _) ?_
    clear hK K
    have hO := owns_new (w := (w.alloc X).drew) (xs := [k, flagI hl]) (n := 2) (g := w.heap.size + 1) rfl (by omega) (base := w.heap.size + 1) (by simp) (by simp)
    refine Plan.left_one 8 (by kernel_rfl) (by rfl) (Plan.plain rfl fun K hK => ?_)
    go_wp2_with (fail)
    refine (list_c _ _ _ _).mono ?_
    rintro e w1 ⟨b2, c2, rfl, hN, l2, lt2, h1⟩
    go_wp2_with (fail)
    refine hK _ _ (ExtF.of_ext h1) ?_
    clear hK K
    have hO := owns_ext hO h1
    have hW : ExtF (w.heap.size + 1) (w.alloc X) w1 := ExtF.trans _ _ _ (((ExtF.refl _).drew).alloc _) (ExtF.of_ext h1)
    have hsz : w.heap.size + 1 < w1.heap.size := by have := h1.size; simp at this; omega
    have hne : b2 ≠ w.heap.size + 1 := by simp at l2; omega
    clear h1 l2
    refine Plan.left_one 9 (by kernel_rfl) (by rfl) (Plan.plain rfl fun K hK => ?_)
    refine wp_append_ints _ _ rfl (w.heap.size + 1) _ 2 2 [k, flagI hl] rfl hO _ 3 _ [lk, lt, lv] rfl rfl hN (by omega) (by omega) (by omega) ?_
    intro g3 c3 w3 hO3 hg3 hat3 hlt3
    refine hK _ _ ((ExtF.refl _).grown hg3 (by simp)) ?_
    clear hK K
    have hW3 : ExtF (w.heap.size + 1) (w.alloc X) w3 := hW.grown hg3 (by simp)
    have hsz3 : w.heap.size + 1 < w3.heap.size := by have := hg3.size; omega
    clear hg3 hat3 hlt3 hN hO hne lt2 hW hsz
    simp only [Act.put, List.setIfInBounds_toArray, List.set_cons_succ, List.set_cons_zero]
    refine Plan.left_q 10 (by rfl) (by kernel_rfl) ?_; go_big_quiet_step (fail); refine wpQuiet_nil ?_
    refine Plan.left_done (by kernel_rfl) ?_
    go_wp2_with (fail)
  case' refine_2 =>
    go_wp2_with (fail)
    refine (list_c _ _ _ _).mono ?_
    rintro e w1 ⟨b2, c2, rfl, hN, l2, lt2, h1⟩
    go_wp2_with (fail)
    refine hK _ _ (ExtF.of_ext h1) ?_
    clear hK K
    have hW : ExtF (w.heap.size + 1) (w.alloc X) w1 := ExtF.trans _ _ _ ((ExtF.refl _).drew) (ExtF.of_ext h1)
    have hsz : w.heap.size + 1 ≤ w1.heap.size := by have := h1.size; simp at this; omega
    clear h1 l2
    refine Plan.left_one 5 (by kernel_rfl) (by rfl) (Plan.plain rfl fun K hK => ?_)
    go_wp2_with (fail)
    refine hK _ _ ((ExtF.refl _).alloc _) ?_
    clear hK K
    have hO := owns_new (w := w1) (xs := [k, flagI hl]) (n := 2) (g := w1.heap.size) rfl (by omega) (base := w.heap.size + 1) (by omega) (by simp)
    have hN2 := intsAt_ext hN ((ExtM.refl w1).alloc (.cells ([k, flagI hl].map (Value.int .i64)).toArray 3)) lt2
    refine Plan.left_one 9 (by kernel_rfl) (by rfl) (Plan.plain rfl fun K hK => ?_)
    refine wp_append_ints _ _ rfl (w.heap.size + 1) _ 2 2 [k, flagI hl] rfl hO _ 3 _ [lk, lt, lv] rfl rfl hN2 (by omega) (by omega) (by simp; omega) ?_
    intro g3 c3 w3 hO3 hg3 hat3 hlt3
    refine hK _ _ ((ExtF.refl _).grown hg3 (by simp; omega)) ?_
    clear hK K
    have hW3 : ExtF (w.heap.size + 1) (w.alloc X) w3 := (hW.alloc _).grown hg3 (by simp; omega)
    have hsz3 : w.heap.size + 1 < w3.heap.size := by have := hg3.size; simp at this; omega
    clear hg3 hat3 hlt3 hN2 hN hO lt2 hW hsz
    simp only [Act.put, List.setIfInBounds_toArray, List.set_cons_succ, List.set_cons_zero]
    refine Plan.left_q 10 (by rfl) (by kernel_rfl) ?_; go_big_quiet_step (fail); refine wpQuiet_nil ?_
    refine Plan.left_done (by kernel_rfl) ?_
    go_wp2_with (fail)
  all_goals
    have hX := HX.out
    subst hX
    have rb := hW3.rules.1
    have hlt3 : w.heap.size < w3.heap.size := by omega
    refine Plan.begin (Plan.ExtF (w.heap.size + 1)) 11 rfl (by kernel_rfl) ?_
    refine Plan.left_q 0 (by rfl) (by kernel_rfl) ?_; go_big_quiet_step (fail); refine wpQuiet_nil ?_
    refine Plan.left_q 1 (by rfl) (by kernel_rfl) ?_; go_big_quiet_step (fail); refine wpQuiet_nil ?_
    refine Plan.left_q 2 (by rfl) (by kernel_rfl) ?_; go_big_quiet_step (fail); refine wpQuiet_nil ?_
    refine Plan.left_q 6 (by rfl) (by kernel_rfl) ?_; go_big_quiet_step (fail); refine wpQuiet_nil ?_
    refine Plan.left_q 7 (by rfl) (by kernel_rfl) ?_; go_big_quiet_step (fail); refine wpQuiet_nil ?_
    refine Plan.left_one 3 (by kernel_rfl) (by rfl) (Plan.plain rfl fun K hK => ?_)
    go_wp2_with (fail)
    refine (one_c _ _).mono ?_
    rintro e w' ⟨rfl, rfl⟩
    go_wp2_with (fail)
    refine hK _ _ (ExtF.refl _) ?_
    clear hK K
    refine Plan.left_one 4 (by kernel_rfl) (by rfl) (Plan.plain rfl fun K hK => ?_)
    go_wp2_with (fail)
    refine hK _ _ ((ExtF.refl _).alloc _) ?_
    clear hK K rb
    have hO4 := hO3.alloc (.cells ([flagI hr].map (Value.int .i64)).toArray 3)
    have hW4 := (hW3.alloc (.cells #[.int .i64 (flagI hr)] 3)).drew
    have hN4 : intsAt (w3.alloc (.cells ([flagI hr].map (Value.int .i64)).toArray 3)) w3.heap.size 0 [flagI hr] := by
      intro i hi
      obtain rfl : i = 0 := by simpa using hi
      go_simp
    have hz4 : (w3.alloc (.cells ([flagI hr].map (Value.int .i64)).toArray 3)).heap.size = w3.heap.size + 1 := by simp
    have hg3 := (hO3.lt g3 rfl).1
    refine Plan.left_one 5 (by kernel_rfl) (by rfl) (Plan.plain rfl fun K hK => ?_)
    refine wp_append_ints _ _ rfl (w.heap.size + 1) g3 5 c3 ([k, flagI hl] ++ [lk, lt, lv]) rfl hO4 _ 1 _ [flagI hr] rfl rfl hN4 (by omega) (by omega) (by simp; omega) ?_
    intro g5 c5 w5 hO5 hg5 hat5 hlt5
    refine hK _ _ ((ExtF.refl _).grown hg5 (by simp; omega)) ?_
    clear hK K
    have hW5 : ExtF (w.heap.size + 1) _ w5 := hW4.grown hg5 (by simp; omega)
    have hsz5 : w.heap.size + 1 < w5.heap.size := by have := hg5.size; simp at this; omega
    clear hN4 hO4 hW4 hz4 hat5 hlt5 hO3 hW3 hg5
    simp only [Act.put, List.setIfInBounds_toArray, List.set_cons_succ, List.set_cons_zero]
    refine Plan.left_one 8 (by kernel_rfl) (by rfl) (Plan.plain rfl fun K hK => ?_)
    go_wp2_with (fail)
    refine (list_c _ _ _ _).mono ?_
    rintro e w6 ⟨b6, c6, rfl, hN6, l6, lt6, h6⟩
    go_wp2_with (fail)
    refine hK _ _ (ExtF.of_ext h6) ?_
    clear hK K
    have hO6 := owns_ext hO5 h6
    have hW6 := ExtF.trans _ _ _ hW5 (ExtF.of_ext h6)
    have hz6 := h6.size
    have hg5' := (hO5.lt g5 rfl).1
    refine Plan.left_one 9 (by kernel_rfl) (by rfl) (Plan.plain rfl fun K hK => ?_)
    refine wp_append_ints _ _ rfl (w.heap.size + 1) g5 6 c5 (([k, flagI hl] ++ [lk, lt, lv]) ++ [flagI hr]) rfl hO6 _ 3 _ [rk, rt, rv] rfl rfl hN6 (by omega) (by omega) (by omega) ?_
    intro g7 c7 w7 hO7 hg7 hat7 hlt7
    refine hK _ _ ((ExtF.refl _).grown hg7 (by simp; omega)) ?_
    clear hK K
    have hW7 := hW6.grown hg7 (by simp; omega)
    simp only [Act.put, List.setIfInBounds_toArray, List.set_cons_succ, List.set_cons_zero]
    refine Plan.left_q 10 (by rfl) (by kernel_rfl) ?_; go_big_quiet_step (fail); refine wpQuiet_nil ?_
    refine Plan.left_done (by kernel_rfl) ?_
    go_wp2_with (fail)
    go_ret
    exact ⟨g7, c7, rfl, intsAt_own hO7 rfl, by have := (hO7.lt g7 rfl).1; omega, hlt7, ExtM.trans _ _ _ ((ExtM.refl _).alloc _) (ExtF.ext hW7 (by simp))⟩
end Go.Proofs.YtggjceolhbdalaaDoor

-- Row4
namespace Go.Proofs.YtggjceolhbdalaaDoor
open Go.RowKit Go.Plan

def rcompareOutI (a b : Out) : Int := ordI (outI a) (outI b)

theorem rcompareOut_c (a b : Out) (w : World) :
    Calls Tryd.prog 47 #[.agg #[.int .i64 a.key, .int .i64 a.l.k, .int .i64 a.l.t, .int .i64 a.l.v, .int .i64 a.r.k, .int .i64 a.r.t, .int .i64 a.r.v, .bool a.hl, .bool a.hr], .agg #[.int .i64 b.key, .int .i64 b.l.k, .int .i64 b.l.t, .int .i64 b.l.v, .int .i64 b.r.k, .int .i64 b.r.t, .int .i64 b.r.v, .bool b.hl, .bool b.hr]] w fun e w' =>
      e = .returned (.int .i64 (rcompareOutI a b)) ∧ Ext w w' := by
  unfold rcompareOutI
  go_enter Tryd.func47, Tryd.ntmps47
  go_wp2_with fail
  refine Plan.begin Plan.Ext 8 rfl (by kernel_rfl) ?_
  refine Plan.left_q 0 (by rfl) (by kernel_rfl) ?_; go_big_quiet_step (fail); refine wpQuiet_nil ?_
  refine Plan.left_q 1 (by rfl) (by kernel_rfl) ?_; go_big_quiet_step (fail); refine wpQuiet_nil ?_
  refine Plan.left_q 3 (by rfl) (by kernel_rfl) ?_; go_big_quiet_step (fail); refine wpQuiet_nil ?_
  refine Plan.left_q 4 (by rfl) (by kernel_rfl) ?_; go_big_quiet_step (fail); refine wpQuiet_nil ?_
  refine Plan.left_one 2 (by kernel_rfl) (by rfl) (Plan.plain rfl fun K hK => ?_)
  go_wp2_with (fail)
  refine (rcompareOut1_c a _).mono ?_
  rintro e w1 ⟨b1, c1, rfl, i1, l1, lt1, h1⟩
  go_wp2_with (fail)
  refine hK _ _ h1 ?_
  clear hK K
  refine Plan.left_one 5 (by kernel_rfl) (by rfl) (Plan.plain rfl fun K hK => ?_)
  go_wp2_with (fail)
  refine (rcompareOut1_c b _).mono ?_
  rintro e w2 ⟨b2, c2, rfl, i2, l2, lt2, h2⟩
  go_wp2_with (fail)
  refine hK _ _ h2 ?_
  clear hK K
  refine Plan.left_one 6 (by kernel_rfl) (by rfl) (Plan.plain rfl fun K hK => ?_)
  go_wp2_with (fail)
  refine (order_c (outI a) (outI b) _ _ _ _ _ _ _ (intsAt_ext i1 h2 lt1) i2 rfl (by simp [outI])).mono ?_
  rintro e w' ⟨rfl, n, rfl⟩
  go_wp2_with (fail)
  refine hK _ _ ((ExtM.refl _).drewN _) ?_
  clear hK K
  refine Plan.left_q 7 (by rfl) (by kernel_rfl) ?_; go_big_quiet_step (fail); refine wpQuiet_nil ?_
  refine Plan.left_done (by kernel_rfl) ?_
  go_wp2
  go_ret
  exact ⟨rfl, (ExtM.trans _ _ _ (ExtM.trans _ _ _ (((ExtM.refl _).alloc _).alloc _).drew h1) h2).drewN _⟩

/-! ### Good -/
def inB (n : Int) : Bool := decide (-1099511627776 ≤ n ∧ n ≤ 1099511627776)

theorem inB_c (n : Int) (w : World) : Calls Tryd.prog 78 #[.int .i64 n] w fun e w' => e = .returned (.bool (inB n)) ∧ w = w' := by
  by_cases h1 : -1099511627776 ≤ n
  · by_cases h2 : n ≤ 1099511627776
    · have e1 : inB n = true := by simp [inB, h1, h2]
      rw [e1]
      go_enter Tryd.func78, Tryd.ntmps78
      go_wp2
      go_ret
      exact ⟨ret_bool (by first | (simp; done) | (simp; omega)), rfl⟩
    · have e1 : inB n = false := by simp [inB]; omega
      rw [e1]
      go_enter Tryd.func78, Tryd.ntmps78
      go_wp2
      go_ret
      exact ⟨ret_bool (by first | (simp; done) | (simp; omega)), rfl⟩
  · have e1 : inB n = false := by simp [inB]; omega
    rw [e1]
    go_enter Tryd.func78, Tryd.ntmps78
    go_wp2
    go_ret
    exact ⟨ret_bool (by first | (simp; done) | (simp; omega)), rfl⟩

theorem rin_c (n lo hi : Int) (w : World) : Calls Tryd.prog 51 #[.int .i64 n, .int .i64 lo, .int .i64 hi] w fun e w' => e = .returned (.bool (decide (lo ≤ n ∧ n ≤ hi))) ∧ w = w' := by
  by_cases h1 : lo ≤ n
  · by_cases h2 : n ≤ hi
    · have e1 : decide (lo ≤ n ∧ n ≤ hi) = true := by simp [h1, h2]
      rw [e1]
      go_enter Tryd.func51, Tryd.ntmps51
      go_wp2
      go_ret
      exact ⟨ret_bool (by first | (simp; done) | (simp; omega)), rfl⟩
    · have e1 : decide (lo ≤ n ∧ n ≤ hi) = false := by simp; omega
      rw [e1]
      go_enter Tryd.func51, Tryd.ntmps51
      go_wp2
      go_ret
      exact ⟨ret_bool (by first | (simp; done) | (simp; omega)), rfl⟩
  · have e1 : decide (lo ≤ n ∧ n ≤ hi) = false := by simp; omega
    rw [e1]
    go_enter Tryd.func51, Tryd.ntmps51
    go_wp2
    go_ret
    exact ⟨ret_bool (by first | (simp; done) | (simp; omega)), rfl⟩

def goodB (k t v : Int) : Bool := inB k && inB t && inB v

theorem good_c (k t v : Int) (w : World) : Calls Tryd.prog 48 #[.agg #[.int .i64 k, .int .i64 t, .int .i64 v]] w fun e w' => e = .returned (.bool (goodB k t v)) ∧ Ext w w' := by
  unfold goodB
  generalize hk : inB k = bk
  generalize ht : inB t = bt
  generalize hv : inB v = bv
  have ck := fun w => hk ▸ inB_c k w
  have ct := fun w => ht ▸ inB_c t w
  have cv := fun w => hv ▸ inB_c v w
  clear hk ht hv
  have Ck : Hid (∀ w, Calls Tryd.prog 78 #[.int .i64 k] w fun e w' => e = .returned (.bool bk) ∧ w = w') := ck
  have Ct : Hid (∀ w, Calls Tryd.prog 78 #[.int .i64 t] w fun e w' => e = .returned (.bool bt) ∧ w = w') := ct
  have Cv : Hid (∀ w, Calls Tryd.prog 78 #[.int .i64 v] w fun e w' => e = .returned (.bool bv) ∧ w = w') := cv
  clear ck ct cv
  cases bk
  · go_enter Tryd.func48, Tryd.ntmps48
    go_wp2_with (go_at_call 78; refine (Ck.out _).mono ?_; rintro e w' ⟨rfl, rfl⟩)
    go_ret
    exact ⟨rfl, (ExtM.refl _).alloc _⟩
  · cases bt
    · go_enter Tryd.func48, Tryd.ntmps48
      go_wp2_with fail
      refine (Ck.out _).mono ?_; rintro e w' ⟨rfl, rfl⟩
      go_wp2_with fail
      refine (Ct.out _).mono ?_; rintro e w' ⟨rfl, rfl⟩
      go_wp2_with fail
      go_ret
      exact ⟨rfl, (ExtM.refl _).alloc _⟩
    · go_enter Tryd.func48, Tryd.ntmps48
      go_wp2_with fail
      refine (Ck.out _).mono ?_; rintro e w' ⟨rfl, rfl⟩
      go_wp2_with fail
      refine (Ct.out _).mono ?_; rintro e w' ⟨rfl, rfl⟩
      go_wp2_with fail
      refine (Cv.out _).mono ?_; rintro e w' ⟨rfl, rfl⟩
      go_wp2_with fail
      go_ret
      exact ⟨ret_bool (by simp), (ExtM.refl _).alloc _⟩

theorem rgood_c (k t v : Int) (w : World) : Calls Tryd.prog 52 #[.agg #[.int .i64 k, .int .i64 t, .int .i64 v]] w fun e w' => e = .returned (.bool (goodB k t v)) ∧ Ext w w' := by
  unfold goodB
  generalize hk : inB k = bk
  generalize ht : inB t = bt
  generalize hv : inB v = bv
  unfold inB at hk ht hv
  have ck := fun w => hk ▸ rin_c k (-1099511627776) 1099511627776 w
  have ct := fun w => ht ▸ rin_c t (-1099511627776) 1099511627776 w
  have cv := fun w => hv ▸ rin_c v (-1099511627776) 1099511627776 w
  clear hk ht hv
  have Ck : Hid (∀ w, Calls Tryd.prog 51 #[.int .i64 k, .int .i64 (-1099511627776), .int .i64 1099511627776] w fun e w' => e = .returned (.bool bk) ∧ w = w') := ck
  have Ct : Hid (∀ w, Calls Tryd.prog 51 #[.int .i64 t, .int .i64 (-1099511627776), .int .i64 1099511627776] w fun e w' => e = .returned (.bool bt) ∧ w = w') := ct
  have Cv : Hid (∀ w, Calls Tryd.prog 51 #[.int .i64 v, .int .i64 (-1099511627776), .int .i64 1099511627776] w fun e w' => e = .returned (.bool bv) ∧ w = w') := cv
  clear ck ct cv
  cases bk
  · go_enter Tryd.func52, Tryd.ntmps52
    go_wp2_with (go_at_call 51; refine (Ck.out _).mono ?_; rintro e w' ⟨rfl, rfl⟩)
    go_ret
    exact ⟨rfl, (ExtM.refl _).alloc _⟩
  · cases bt
    · go_enter Tryd.func52, Tryd.ntmps52
      go_wp2_with fail
      refine (Ck.out _).mono ?_; rintro e w' ⟨rfl, rfl⟩
      go_wp2_with fail
      refine (Ct.out _).mono ?_; rintro e w' ⟨rfl, rfl⟩
      go_wp2_with fail
      go_ret
      exact ⟨rfl, (ExtM.refl _).alloc _⟩
    · go_enter Tryd.func52, Tryd.ntmps52
      go_wp2_with fail
      refine (Ck.out _).mono ?_; rintro e w' ⟨rfl, rfl⟩
      go_wp2_with fail
      refine (Ct.out _).mono ?_; rintro e w' ⟨rfl, rfl⟩
      go_wp2_with fail
      refine (Cv.out _).mono ?_; rintro e w' ⟨rfl, rfl⟩
      go_wp2_with fail
      go_ret
      exact ⟨ret_bool (by simp), (ExtM.refl _).alloc _⟩

/-! ### Pair, Lone -/
def loneO (s : Int) (r : Row) : Out := if s = 0 then ⟨r.k, r, ⟨0, 0, 0⟩, true, false⟩ else ⟨r.k, ⟨0, 0, 0⟩, r, false, true⟩

def meetsB (lo hi lk lt rk rt : Int) : Bool := decide (lk = rk) && (decide (lo ≤ wrap64 (rt - lt)) && decide (wrap64 (rt - lt) ≤ hi))

end Go.Proofs.YtggjceolhbdalaaDoor
