/- A relation for regions that only draw and lay blocks; row.CompareOut by it. -/
import Derived.Test.YtmcgnnmffeojpaaGreatDoorPk4
import Derived.Sort.Grow
namespace Go.Plan
open Go.Sort

/-- Some draws, and new blocks: no more. -/
def Grw (w w' : World) : Prop := ∃ q os, w' = grow (w.drewN q) os
theorem Grw.refl (w : World) : Grw w w := ⟨0, #[], by simp [grow, World.drewN]⟩
theorem Grw.trans (a b c : World) (h : Grw a b) (k : Grw b c) : Grw a c := by
  obtain ⟨q, os, rfl⟩ := h
  obtain ⟨q', os', rfl⟩ := k
  exact ⟨q + q', os ++ os', by simp [grow, World.drewN, Array.append_assoc, Nat.add_assoc]⟩
instance : Std.Refl Grw := ⟨Grw.refl⟩
instance : Trans Grw Grw Grw := ⟨fun h k => Grw.trans _ _ _ h k⟩
theorem Grw.alloc {a w : World} (h : Grw a w) (o : Obj) : Grw a (w.alloc o) := Grw.trans _ _ _ h ⟨0, #[o], by rw [alloc_eq_grow]; rfl⟩
theorem Grw.drew {a w : World} (h : Grw a w) : Grw a w.drew := Grw.trans _ _ _ h ⟨1, #[], by rw [grow_empty]; rfl⟩
theorem Grw.ext {a w : World} (h : Grw a w) : Ext a w := by
  obtain ⟨q, os, rfl⟩ := h
  exact ⟨rfl, rfl, rfl, by simp [grow, World.drewN], fun k hk _ => by
    have hk' : k < (a.drewN q).heap.size := hk
    simp only [grow]
    rw [Array.getElem?_append_left hk']
    rfl⟩
theorem Grw.rules {w w' : World} (h : Grw w w') : (∀ b o, b < w.heap.size → w'.cell? ⟨b, o, none⟩ = w.cell? ⟨b, o, none⟩) ∧ (∀ b o, b < w.heap.size → w'.frozen? ⟨b, o, none⟩ = w.frozen? ⟨b, o, none⟩) ∧ True :=
  ⟨h.ext.rules.1, h.ext.rules.2.1, trivial⟩
theorem Grw.size {w w' : World} (h : Grw w w') : w.heap.size ≤ w'.heap.size := h.ext.size
@[go_sem] theorem cell?_grw (w p : World) (b o : Nat) (hb : b < w.heap.size) : (Plan.ext Grw w p).cell? ⟨b, o, none⟩ = w.cell? ⟨b, o, none⟩ := (ext_E Grw.refl w p).rules.1 b o hb
@[go_sem] theorem frozen?_grw (w p : World) (b o : Nat) (hb : b < w.heap.size) : (Plan.ext Grw w p).frozen? ⟨b, o, none⟩ = w.frozen? ⟨b, o, none⟩ := (ext_E Grw.refl w p).rules.2.1 b o hb
@[go_sem] theorem cell?_grw_drew (w p : World) (b o : Nat) (hb : b < w.heap.size) : (Plan.ext Grw w.drew p).cell? ⟨b, o, none⟩ = w.cell? ⟨b, o, none⟩ := cell?_grw w.drew p b o hb
@[go_sem] theorem frozen?_grw_drew (w p : World) (b o : Nat) (hb : b < w.heap.size) : (Plan.ext Grw w.drew p).frozen? ⟨b, o, none⟩ = w.frozen? ⟨b, o, none⟩ := frozen?_grw w.drew p b o hb
end Go.Plan
namespace Go.Proofs.YtmcgnnmffeojpaaGreatDoor
open Go.RowKit Go.Plan

theorem compare_g (k1 t1 v1 k2 t2 v2 : Int) (w : World) :
    Calls Tryz.prog 93 #[.agg #[.int .i64 k1, .int .i64 t1, .int .i64 v1], .agg #[.int .i64 k2, .int .i64 t2, .int .i64 v2]] w fun e w' =>
      e = .returned (.int .i64 (compareI k1 t1 v1 k2 t2 v2)) ∧ Grw w w' := by
  unfold compareI
  go_enter Tryz.func93, Tryz.ntmps93
  go_wp2_with fail
  refine Plan.begin Plan.Grw 18 rfl (by kernel_rfl) ?_
  refine Plan.left_q 0 (by rfl) (by kernel_rfl) ?_; go_big_quiet_step (fail); refine wpQuiet_nil ?_
  refine Plan.left_q 1 (by rfl) (by kernel_rfl) ?_; go_big_quiet_step (fail); refine wpQuiet_nil ?_
  refine Plan.left_q 2 (by rfl) (by kernel_rfl) ?_; go_big_quiet_step (fail); refine wpQuiet_nil ?_
  refine Plan.left_q 3 (by rfl) (by kernel_rfl) ?_; go_big_quiet_step (fail); refine wpQuiet_nil ?_
  refine Plan.left_q 5 (by rfl) (by kernel_rfl) ?_; go_big_quiet_step (fail); refine wpQuiet_nil ?_
  refine Plan.left_q 6 (by rfl) (by kernel_rfl) ?_; go_big_quiet_step (fail); refine wpQuiet_nil ?_
  refine Plan.left_q 7 (by rfl) (by kernel_rfl) ?_; go_big_quiet_step (fail); refine wpQuiet_nil ?_
  refine Plan.left_q 8 (by rfl) (by kernel_rfl) ?_; go_big_quiet_step (fail); refine wpQuiet_nil ?_
  refine Plan.left_q 10 (by rfl) (by kernel_rfl) ?_; go_big_quiet_step (fail); refine wpQuiet_nil ?_
  refine Plan.left_q 11 (by rfl) (by kernel_rfl) ?_; go_big_quiet_step (fail); refine wpQuiet_nil ?_
  refine Plan.left_q 12 (by rfl) (by kernel_rfl) ?_; go_big_quiet_step (fail); refine wpQuiet_nil ?_
  refine Plan.left_q 13 (by rfl) (by kernel_rfl) ?_; go_big_quiet_step (fail); refine wpQuiet_nil ?_
  refine Plan.left_one 4 (by kernel_rfl) (by rfl) (Plan.plain rfl fun K hK => ?_)
  go_wp2_with (fail)
  refine (cmp_c _ _ _).mono ?_
  rintro e w' ⟨rfl, rfl⟩
  go_wp2_with (fail)
  refine hK _ _ (Grw.refl _) ?_
  clear hK K
  refine Plan.left_one 9 (by kernel_rfl) (by rfl) (Plan.plain rfl fun K hK => ?_)
  go_wp2_with (fail)
  refine (cmp_c _ _ _).mono ?_
  rintro e w' ⟨rfl, rfl⟩
  go_wp2_with (fail)
  refine hK _ _ (Grw.refl _) ?_
  clear hK K
  refine Plan.left_one 14 (by kernel_rfl) (by rfl) (Plan.plain rfl fun K hK => ?_)
  go_wp2_with (fail)
  refine (cmp_c _ _ _).mono ?_
  rintro e w' ⟨rfl, rfl⟩
  go_wp2_with (fail)
  refine hK _ _ (Grw.refl _) ?_
  clear hK K
  refine Plan.left_one 15 (by kernel_rfl) (by rfl) (Plan.plain rfl fun K hK => ?_)
  go_wp2_with (fail)
  refine hK _ _ ((Grw.refl _).alloc _) ?_
  clear hK K
  refine Plan.left_one 16 (by kernel_rfl) (by rfl) (Plan.plain rfl fun K hK => ?_)
  go_wp2_with (fail)
  refine (or_c [cmpI k1 k2, cmpI t1 t2, cmpI v1 v2] _ _ _ _ ?_ (by simp)).mono ?_
  · intro i hi; simp only [List.length_cons, List.length_nil] at hi; have hi5 : i = 0 ∨ i = 1 ∨ i = 2 ∨ i = 3 ∨ i = 4 := (by omega); rcases hi5 with rfl | rfl | rfl | rfl | rfl <;> first | (exfalso; omega) | go_simp
  rintro e w' ⟨rfl, rfl⟩
  go_wp2_with (fail)
  refine hK _ _ (Grw.refl _) ?_
  clear hK K
  refine Plan.left_q 17 (by rfl) (by kernel_rfl) ?_; go_big_quiet_step (fail); refine wpQuiet_nil ?_
  refine Plan.left_done (by kernel_rfl) ?_
  go_wp2
  go_ret
  exact ⟨rfl, by repeat (first | exact Grw.refl _ | refine Grw.drew ?_ | refine Grw.alloc ?_ _)⟩

theorem compareOut_g (a b : Out) (w : World) :
    Calls Tryz.prog 55 #[.agg #[.int .i64 a.key, .int .i64 a.l.k, .int .i64 a.l.t, .int .i64 a.l.v, .int .i64 a.r.k, .int .i64 a.r.t, .int .i64 a.r.v, .bool a.hl, .bool a.hr], .agg #[.int .i64 b.key, .int .i64 b.l.k, .int .i64 b.l.t, .int .i64 b.l.v, .int .i64 b.r.k, .int .i64 b.r.t, .int .i64 b.r.v, .bool b.hl, .bool b.hr]] w fun e w' =>
      e = .returned (.int .i64 (compareOutI a b)) ∧ Grw w w' := by
  unfold compareOutI
  obtain ⟨k1, ⟨lk1, lt1, lv1⟩, ⟨rk1, rt1, rv1⟩, hl1, hr1⟩ := a
  obtain ⟨k2, ⟨lk2, lt2, lv2⟩, ⟨rk2, rt2, rv2⟩, hl2, hr2⟩ := b
  simp only
  go_enter Tryz.func55, Tryz.ntmps55
  go_wp2_with fail
  refine Plan.begin Plan.Grw 32 rfl (by kernel_rfl) ?_
  refine Plan.left_q 0 (by rfl) (by kernel_rfl) ?_; go_big_quiet_step (fail); refine wpQuiet_nil ?_
  refine Plan.left_q 1 (by rfl) (by kernel_rfl) ?_; go_big_quiet_step (fail); refine wpQuiet_nil ?_
  refine Plan.left_q 2 (by rfl) (by kernel_rfl) ?_; go_big_quiet_step (fail); refine wpQuiet_nil ?_
  refine Plan.left_q 3 (by rfl) (by kernel_rfl) ?_; go_big_quiet_step (fail); refine wpQuiet_nil ?_
  refine Plan.left_q 5 (by rfl) (by kernel_rfl) ?_; go_big_quiet_step (fail); refine wpQuiet_nil ?_
  refine Plan.left_q 6 (by rfl) (by kernel_rfl) ?_; go_big_quiet_step (fail); refine wpQuiet_nil ?_
  refine Plan.left_q 8 (by rfl) (by kernel_rfl) ?_; go_big_quiet_step (fail); refine wpQuiet_nil ?_
  refine Plan.left_q 9 (by rfl) (by kernel_rfl) ?_; go_big_quiet_step (fail); refine wpQuiet_nil ?_
  refine Plan.left_q 12 (by rfl) (by kernel_rfl) ?_; go_big_quiet_step (fail); refine wpQuiet_nil ?_
  refine Plan.left_q 13 (by rfl) (by kernel_rfl) ?_; go_big_quiet_step (fail); refine wpQuiet_nil ?_
  refine Plan.left_q 14 (by rfl) (by kernel_rfl) ?_; go_big_quiet_step (fail); refine wpQuiet_nil ?_
  refine Plan.left_q 15 (by rfl) (by kernel_rfl) ?_; go_big_quiet_step (fail); refine wpQuiet_nil ?_
  refine Plan.left_q 17 (by rfl) (by kernel_rfl) ?_; go_big_quiet_step (fail); refine wpQuiet_nil ?_
  refine Plan.left_q 18 (by rfl) (by kernel_rfl) ?_; go_big_quiet_step (fail); refine wpQuiet_nil ?_
  refine Plan.left_q 20 (by rfl) (by kernel_rfl) ?_; go_big_quiet_step (fail); refine wpQuiet_nil ?_
  refine Plan.left_q 21 (by rfl) (by kernel_rfl) ?_; go_big_quiet_step (fail); refine wpQuiet_nil ?_
  refine Plan.left_q 24 (by rfl) (by kernel_rfl) ?_; go_big_quiet_step (fail); refine wpQuiet_nil ?_
  refine Plan.left_q 25 (by rfl) (by kernel_rfl) ?_; go_big_quiet_step (fail); refine wpQuiet_nil ?_
  refine Plan.left_q 26 (by rfl) (by kernel_rfl) ?_; go_big_quiet_step (fail); refine wpQuiet_nil ?_
  refine Plan.left_q 27 (by rfl) (by kernel_rfl) ?_; go_big_quiet_step (fail); refine wpQuiet_nil ?_
  refine Plan.left_one 4 (by kernel_rfl) (by rfl) (Plan.plain rfl fun K hK => ?_)
  go_wp2_with (fail)
  refine (cmp_c _ _ _).mono ?_
  rintro e w' ⟨rfl, rfl⟩
  go_wp2_with (fail)
  refine hK _ _ (Grw.refl _) ?_
  clear hK K
  refine Plan.left_one 7 (by kernel_rfl) (by rfl) (Plan.plain rfl fun K hK => ?_)
  go_wp2_with (fail)
  refine (flag_c _ _).mono ?_
  rintro e w' ⟨rfl, rfl⟩
  go_wp2_with (fail)
  refine hK _ _ (Grw.refl _) ?_
  clear hK K
  refine Plan.left_one 10 (by kernel_rfl) (by rfl) (Plan.plain rfl fun K hK => ?_)
  go_wp2_with (fail)
  refine (flag_c _ _).mono ?_
  rintro e w' ⟨rfl, rfl⟩
  go_wp2_with (fail)
  refine hK _ _ (Grw.refl _) ?_
  clear hK K
  refine Plan.left_one 11 (by kernel_rfl) (by rfl) (Plan.plain rfl fun K hK => ?_)
  go_wp2_with (fail)
  refine (cmp_c _ _ _).mono ?_
  rintro e w' ⟨rfl, rfl⟩
  go_wp2_with (fail)
  refine hK _ _ (Grw.refl _) ?_
  clear hK K
  refine Plan.left_one 16 (by kernel_rfl) (by rfl) (Plan.plain rfl fun K hK => ?_)
  go_wp2_with (fail)
  refine (compare_g _ _ _ _ _ _ _).mono ?_
  rintro e w1 ⟨rfl, h1⟩
  have H1 := Grw.trans _ _ _ (Grw.refl _).drew h1
  obtain ⟨hc1, hf1, -⟩ := Grw.rules H1
  have hs1_0 : w.heap.size < w1.heap.size := by have := H1.size; (try simp at this); omega
  have hs1_1 : w.heap.size + 1 < w1.heap.size := by have := H1.size; (try simp at this); omega
  go_wp2_with (fail)
  refine hK _ _ h1 ?_
  clear hK K
  refine Plan.left_one 19 (by kernel_rfl) (by rfl) (Plan.plain rfl fun K hK => ?_)
  go_wp2_with (fail)
  refine (flag_c _ _).mono ?_
  rintro e w' ⟨rfl, rfl⟩
  go_wp2_with (fail)
  refine hK _ _ (Grw.refl _) ?_
  clear hK K
  refine Plan.left_one 22 (by kernel_rfl) (by rfl) (Plan.plain rfl fun K hK => ?_)
  go_wp2_with (fail)
  refine (flag_c _ _).mono ?_
  rintro e w' ⟨rfl, rfl⟩
  go_wp2_with (fail)
  refine hK _ _ (Grw.refl _) ?_
  clear hK K
  refine Plan.left_one 23 (by kernel_rfl) (by rfl) (Plan.plain rfl fun K hK => ?_)
  go_wp2_with (fail)
  refine (cmp_c _ _ _).mono ?_
  rintro e w' ⟨rfl, rfl⟩
  go_wp2_with (fail)
  refine hK _ _ (Grw.refl _) ?_
  clear hK K
  refine Plan.left_one 28 (by kernel_rfl) (by rfl) (Plan.plain rfl fun K hK => ?_)
  go_wp2_with (fail)
  refine (compare_g _ _ _ _ _ _ _).mono ?_
  rintro e w2 ⟨rfl, h2⟩
  clear hc1 hf1 hs1_0 hs1_1
  have H2 := Grw.trans _ _ _ H1 h2
  obtain ⟨hc2, hf2, -⟩ := Grw.rules H2
  have hs2_0 : w.heap.size < w2.heap.size := by have := H2.size; (try simp at this); omega
  have hs2_1 : w.heap.size + 1 < w2.heap.size := by have := H2.size; (try simp at this); omega
  go_wp2_with (fail)
  refine hK _ _ h2 ?_
  clear hK K
  refine Plan.left_one 29 (by kernel_rfl) (by rfl) (Plan.plain rfl fun K hK => ?_)
  go_wp2_with (fail)
  refine hK _ _ ((Grw.refl _).alloc _) ?_
  clear hK K
  refine Plan.left_one 30 (by kernel_rfl) (by rfl) (Plan.plain rfl fun K hK => ?_)
  go_wp2_with (fail)
  refine (or_c [cmpI k1 k2, cmpI (flagI hl1) (flagI hl2), compareI lk1 lt1 lv1 lk2 lt2 lv2, cmpI (flagI hr1) (flagI hr2), compareI rk1 rt1 rv1 rk2 rt2 rv2] _ _ _ _ ?_ (by simp)).mono ?_
  · intro i hi; simp only [List.length_cons, List.length_nil] at hi; have hi5 : i = 0 ∨ i = 1 ∨ i = 2 ∨ i = 3 ∨ i = 4 := (by omega); rcases hi5 with rfl | rfl | rfl | rfl | rfl <;> first | (exfalso; omega) | go_simp
  rintro e w' ⟨rfl, rfl⟩
  go_wp2_with (fail)
  refine hK _ _ (Grw.refl _) ?_
  clear hK K
  refine Plan.left_q 31 (by rfl) (by kernel_rfl) ?_; go_big_quiet_step (fail); refine wpQuiet_nil ?_
  refine Plan.left_done (by kernel_rfl) ?_
  go_wp2
  go_ret
  exact ⟨rfl, by repeat (first | exact Grw.refl _ | refine Grw.drew ?_ | refine Grw.alloc ?_ _ | refine Grw.trans _ _ _ ?_ (by assumption))⟩
end Go.Proofs.YtmcgnnmffeojpaaGreatDoor
