/- Boxes that hold an Out; an append whose run is known. -/
import Derived.Test.YtmcgnnmffeojpaaGreatDoorPk6
import Derived.OwnWalk
import Derived.Carry
/- What the functions of the package bag compute: one less. -/
namespace Go.Proofs.YtmcgnnmffeojpaaGreatDoor
open Go.RowKit Go.Plan

theorem look_nilO (x : Out) (hx : x.ok) (w : World) : (Instr.lookup 36 (.map none) (encO x) false).run Tryz.prog w = .ok (.int .i64 0) w := by
  obtain ⟨l, hl⟩ := keyO x hx
  have hf : (Instr.findKey 58 (encO x) []).run Tryz.prog w = .ok none w := by
    rcases outLaw.find w hl [] (by simp) with ⟨h, -⟩ | ⟨j, e, -, h, -⟩
    · exact h
    · simp at h
  simp [Instr.lookup, run_underlying Tryz.underlying36, outLaw.check w _ hl, hf, Result.andThen]

set_option maxRecDepth 100000 in
set_option maxHeartbeats 4000000 in
/-- One less of what is there several times. -/
theorem bagDecO_c (B o d : Nat) (l : List Out) (x : Out) (w : World) (h : BagIs w B o (some d) l) (hx : x.ok) (hl : l.length < 1000000000) (hc1 : 1 < l.count x) :
    Calls Tryz.prog 82 #[.pointer (some ⟨B, o, none⟩), encC x true] w fun e w' => e = .returned .nilIface ∧ ExtM (bagM B (some d)) w w' ∧ BagIs w' B o (some d) (l.erase x) ∧ OnlyAt B o w w' := by
  have hB := h.ltB
  obtain ⟨d', m, hd, hdB, hm, hcnt⟩ := h.mp.resolve_left (by rintro ⟨h, -⟩; cases h)
  obtain rfl : d = d' := Option.some.inj hd
  have hdw := hm.lt
  have hok := h.ok
  have hbc := h.cells
  obtain ⟨c0, c1, f0, f1⟩ := id hbc
  clear h hd
  unfold encC
  go_enter Tryz.func82, Tryz.ntmps82
  go_wp2_with fail
  have bx := BoxC.mk' w x true 72
  have x1 : Ext w (w.alloc (.cells #[.int .i64 x.key, .int .i64 x.l.k, .int .i64 x.l.t, .int .i64 x.l.v, .int .i64 x.r.k, .int .i64 x.r.t, .int .i64 x.r.v, .bool x.hl, .bool x.hr, .bool true] 72)) := (ExtM.refl _).alloc _
  replace hbc := hbc.of x1 id
  replace hm := hm.of x1 id
  clear c0 c1 f0 f1
  generalize w.alloc (.cells #[.int .i64 x.key, .int .i64 x.l.k, .int .i64 x.l.t, .int .i64 x.l.v, .int .i64 x.r.k, .int .i64 x.r.t, .int .i64 x.r.v, .bool x.hl, .bool x.hr, .bool true] 72) = w1 at *
  have hN : ¬ w.heap.size = d := by omega
  have hBn : ¬ B = d := fun e => hdB e.symm
  have hBN : ¬ B = w.heap.size := by omega
  generalize hn : w.heap.size = n at *
  have hlq := fun p => (hm.of (ext_E ExtM.refl w1.drew p |> fun h => ExtM.trans _ _ _ (ExtM.drew (ExtM.refl w1)) h : Ext w1 (Plan.ext Ext w1.drew p)) id).run_look false outLaw encO_inj Tryz.underlying36 zeroInt x (keyO x hx)
  simp only [hcnt.getD, encO_run, Bool.false_eq_true, if_false] at hlq
  have hz1 : (((l.count x : Nat) : Int) == 0) = false := by simp; omega
  have hz2 : (((l.count x : Nat) : Int) - 1 == 0) = false := by simp; omega
  have hlen : 0 < l.length := Nat.lt_of_lt_of_le (by omega) (List.count_le_length (a := x) (l := l))
  have hle : ((l.length : Int) - 1) = ((l.erase x).length : Int) := by rw [List.length_erase_of_mem (List.count_pos_iff.1 (by omega))]; omega
  have hokr : ∀ y ∈ l.erase x, y.ok := fun y hy => hok y (List.mem_of_mem_erase hy)
  have hc3 := hcnt.dec x hc1
  have HLE := Lib.hid hle
  clear hle
  have hcc : 1 < ((l.count x : Nat) : Int) := by omega
  have hnl : n < w1.heap.size := cell_lt' bx.e0
  have hB1 := hbc.lt
  obtain ⟨c0, c1, f0, f1⟩ := id hbc
  obtain ⟨e0, e1, e2, e3, e4, e5, e6, e7, e8, e9⟩ := id bx
  refine Plan.begin Plan.Ext 8 rfl (by kernel_rfl) ?_
  refine Plan.left_q 0 (by rfl) (by kernel_rfl) ?_; go_big_quiet_step (fail); refine wpQuiet_nil ?_
  refine Plan.left_q 1 (by rfl) (by kernel_rfl) ?_; go_big_quiet_step (fail); refine wpQuiet_nil ?_
  refine Plan.left_q 2 (by rfl) (by kernel_rfl) ?_; go_big_quiet_step (fail); refine wpQuiet_nil ?_
  refine Plan.left_q 3 (by rfl) (by kernel_rfl) ?_; go_big_quiet_step (fail); refine wpQuiet_nil ?_
  refine Plan.left_q 4 (by rfl) (by kernel_rfl) ?_; go_big_quiet_step (fail); refine wpQuiet_nil ?_
  refine Plan.left_q 5 (by rfl) (by kernel_rfl) ?_; go_big_quiet_step (fail); refine wpQuiet_nil ?_
  refine Plan.left_q 6 (by rfl) (by kernel_rfl) ?_; go_big_quiet_step (fail); refine wpQuiet_nil ?_
  refine Plan.left_q 7 (by rfl) (by kernel_rfl) ?_; go_big_quiet_step (fail); refine wpQuiet_nil ?_
  refine Plan.left_done (by kernel_rfl) ?_
  clear hnl hB1 c0 c1 f0 f1 e0 e1 e2 e3 e4 e5 e6 e7 e8 e9
  have xd : Ext w1 w1.drew := (ExtM.refl _).drew
  replace hm := hm.of xd id
  replace bx := bx.of xd id
  replace hbc := hbc.of xd id
  replace x1 := ExtM.trans _ _ _ x1 xd
  clear hlq xd
  go_wp2_with fail
  generalize w1.drew = v1 at *
  have hlk := (hm.of (ExtM.drew (ExtM.refl v1) : Ext v1 v1.drew) id).run_look false outLaw encO_inj Tryz.underlying36 zeroInt x (keyO x hx)
  obtain ⟨st, w2, hme, x2, z2, hlk2, hst⟩ := (hm.of (ExtM.drew (ExtM.refl v1) : Ext v1 v1.drew) id).run_entry outLaw encO_inj Tryz.underlying36 zeroInt x (keyO x hx)
  obtain ⟨w3, hst3, x3, z3, hm3⟩ := hst (.int .i64 ((l.count x : Int) - 1))
  rw [hcnt.getD] at hlk hme hlk2
  simp only [encO_run, Bool.false_eq_true, if_false] at hlk hme hlk2
  have y3 : ExtB d v1 w3 := ExtB.trans _ _ _ (ExtB.of_ext ((ExtM.refl v1).drew)) (ExtB.trans _ _ _ x2 x3)
  have hbc3 := hbc.of y3 hBn
  have bx3 := bx.of y3 hN
  clear z2 z3
  have hcb0 : 0 ≤ ((l.count x : Nat) : Int) := Int.natCast_nonneg _
  have hcb1 : ((l.count x : Nat) : Int) < 1000000000 := by have := List.count_le_length (a := x) (l := l); omega
  have hlq := fun p => (hm3.of (ext_E ExtM.refl w3.drew p |> fun h => ExtM.trans _ _ _ (ExtM.drew (ExtM.refl w3)) h : Ext w3 (Plan.ext Ext w3.drew p)) id).run_look false outLaw encO_inj Tryz.underlying36 zeroInt x (keyO x hx)
  simp only [hc3.getD, encO_run, Bool.false_eq_true, if_false] at hlq
  generalize hcq : ((l.count x : Nat) : Int) = c at *
  have hq : (((l.erase x).count x : Nat) : Int) = c - 1 := by rw [List.count_erase_self]; omega
  simp only [hq] at hlq
  clear hcq hq
  have hnl : n < v1.heap.size := cell_lt' bx.e0
  have hB1 := hbc.lt
  obtain ⟨c0, c1, f0, f1⟩ := id hbc
  obtain ⟨e0, e1, e2, e3, e4, e5, e6, e7, e8, e9⟩ := id bx
  refine Plan.begin (Plan.ExtB d) 11 rfl (by kernel_rfl) ?_
  refine Plan.left_q 0 (by rfl) (by kernel_rfl) ?_; go_big_quiet_step (fail); refine wpQuiet_nil ?_
  refine Plan.left_q 1 (by rfl) (by kernel_rfl) ?_; go_big_quiet_step (fail); refine wpQuiet_nil ?_
  refine Plan.left_q 2 (by rfl) (by kernel_rfl) ?_; go_big_quiet_step (fail); refine wpQuiet_nil ?_
  refine Plan.left_q 3 (by rfl) (by kernel_rfl) ?_; go_big_quiet_step (fail); refine wpQuiet_nil ?_
  refine Plan.left_q 4 (by rfl) (by kernel_rfl) ?_; go_big_quiet_step (fail); refine wpQuiet_nil ?_
  refine Plan.left_q 5 (by rfl) (by kernel_rfl) ?_; go_big_quiet_step (fail); refine wpQuiet_nil ?_
  refine Plan.left_two 6 8 (by kernel_rfl) (by rfl) (by rfl) (Plan.plain rfl fun K hK => ?_) (Plan.plain rfl fun K hK => ?_)
  focus
    go_wp2_with (fail)
    refine hK _ _ (ExtM.refl _) ?_
    clear hK K
    refine Plan.left_q 7 (by rfl) (by kernel_rfl) ?_; go_big_quiet_step (fail); refine wpQuiet_nil ?_
    refine Plan.left_one 8 (by kernel_rfl) (by rfl) (Plan.plain rfl fun K hK => ?_)
    go_wp2_with (fail)
    refine hK _ _ (x2) ?_
    clear hK K
    refine Plan.left_q 9 (by rfl) (by kernel_rfl) ?_; go_big_quiet_step (fail); refine wpQuiet_nil ?_
    refine Plan.left_one 10 (by kernel_rfl) (by rfl) (Plan.plain rfl fun K hK => ?_)
    go_wp2_with (fail)
    refine hK _ _ (x3) ?_
    clear hK K
    refine Plan.left_done (by kernel_rfl) ?_
  rotate_left
  focus
    go_wp2_with (fail)
    refine hK _ _ (x2) ?_
    clear hK K
    refine Plan.left_q 9 (by rfl) (by kernel_rfl) ?_; go_big_quiet_step (fail); refine wpQuiet_nil ?_
    refine Plan.left_one 6 (by kernel_rfl) (by rfl) (Plan.plain rfl fun K hK => ?_)
    go_wp2_with (fail)
    refine hK _ _ (ExtM.refl _) ?_
    clear hK K
    refine Plan.left_q 7 (by rfl) (by kernel_rfl) ?_; go_big_quiet_step (fail); refine wpQuiet_nil ?_
    refine Plan.left_one 10 (by kernel_rfl) (by rfl) (Plan.plain rfl fun K hK => ?_)
    go_wp2_with (fail)
    refine hK _ _ (x3) ?_
    clear hK K
    refine Plan.left_done (by kernel_rfl) ?_
  all_goals
    clear hnl hB1 c0 c1 f0 f1 e0 e1 e2 e3 e4 e5 e6 e7 e8 e9
    go_wp2_with fail
    have hnl : n < w3.heap.size := cell_lt' bx3.e0
    have hB1 := hbc3.lt
    obtain ⟨c0, c1, f0, f1⟩ := id hbc3
    obtain ⟨e0, e1, e2, e3, e4, e5, e6, e7, e8, e9⟩ := id bx3
    refine Plan.begin Plan.Ext 8 rfl (by kernel_rfl) ?_
    refine Plan.left_q 0 (by rfl) (by kernel_rfl) ?_; go_big_quiet_step (fail); refine wpQuiet_nil ?_
    refine Plan.left_q 1 (by rfl) (by kernel_rfl) ?_; go_big_quiet_step (fail); refine wpQuiet_nil ?_
    refine Plan.left_q 2 (by rfl) (by kernel_rfl) ?_; go_big_quiet_step (fail); refine wpQuiet_nil ?_
    refine Plan.left_q 3 (by rfl) (by kernel_rfl) ?_; go_big_quiet_step (fail); refine wpQuiet_nil ?_
    refine Plan.left_q 4 (by rfl) (by kernel_rfl) ?_; go_big_quiet_step (fail); refine wpQuiet_nil ?_
    refine Plan.left_q 5 (by rfl) (by kernel_rfl) ?_; go_big_quiet_step (fail); refine wpQuiet_nil ?_
    refine Plan.left_q 6 (by rfl) (by kernel_rfl) ?_; go_big_quiet_step (fail); refine wpQuiet_nil ?_
    refine Plan.left_q 7 (by rfl) (by kernel_rfl) ?_; go_big_quiet_step (fail); refine wpQuiet_nil ?_
    refine Plan.left_done (by kernel_rfl) ?_
    clear hnl hB1 c0 c1 f0 f1 e0 e1 e2 e3 e4 e5 e6 e7 e8 e9
    have xd : Ext w3 w3.drew := (ExtM.refl _).drew
    have hm4 := hm3.of xd id
    have hbc4 := hbc3.of xd id
    have y4 : ExtB d v1 w3.drew := ExtB.trans _ _ _ y3 (ExtB.of_ext xd)
    have hlt4 := hbc4.lt
    obtain ⟨c0, c1, f0, f1⟩ := id hbc4
    clear xd hbc3 bx3 hm3 y3 x3 hlq
    generalize w3.drew = w4 at *
    go_wp2_with fail
    go_ret
    refine ⟨rfl, ?_, BagIs.store' hbc4 hokr hBn hm4 hc3 _ HLE.out, (((OnlyAt.refl w).step x1 (by rw [hn]; exact hB) (fun h => h)).step y4 hbc.lt hBn).set (.inr rfl) _⟩
    exact ExtM.setCell (ExtM.trans _ _ _ (ExtM.mono x1 (fun _ _ h => h.elim)) (ExtM.mono y4 (fun k _ h => .inr (congrArg some h.symm)))) (.inr (.inl rfl)) _
theorem bagDec_c (B o d : Nat) (l : List Out) (x : Out) (w : World) (h : BagIs w B o (some d) l) (hx : x.ok) (hl : l.length < 1000000000) (hc1 : 1 < l.count x) :
    Calls Tryz.prog 82 #[.pointer (some ⟨B, o, none⟩), encC x true] w fun e w' => e = .returned .nilIface ∧ ExtM (bagM B (some d)) w w' ∧ BagIs w' B o (some d) (l.erase x) :=
  (bagDecO_c B o d l x w h hx hl hc1).mono fun _e _w' hh => ⟨hh.1, hh.2.1, hh.2.2.1⟩

set_option maxRecDepth 100000 in
set_option maxHeartbeats 4000000 in
/-- One less of what is there once. -/
theorem bagDelO_c (B o d : Nat) (l : List Out) (x : Out) (w : World) (h : BagIs w B o (some d) l) (hx : x.ok) (hl : l.length < 1000000000) (hc1 : l.count x = 1) :
    Calls Tryz.prog 82 #[.pointer (some ⟨B, o, none⟩), encC x true] w fun e w' => e = .returned .nilIface ∧ ExtM (bagM B (some d)) w w' ∧ BagIs w' B o (some d) (l.erase x) ∧ OnlyAt B o w w' := by
  have hB := h.ltB
  obtain ⟨d', m, hd, hdB, hm, hcnt⟩ := h.mp.resolve_left (by rintro ⟨h, -⟩; cases h)
  obtain rfl : d = d' := Option.some.inj hd
  have hdw := hm.lt
  have hok := h.ok
  have hbc := h.cells
  obtain ⟨c0, c1, f0, f1⟩ := id hbc
  clear h hd
  unfold encC
  go_enter Tryz.func82, Tryz.ntmps82
  go_wp2_with fail
  have bx := BoxC.mk' w x true 72
  have x1 : Ext w (w.alloc (.cells #[.int .i64 x.key, .int .i64 x.l.k, .int .i64 x.l.t, .int .i64 x.l.v, .int .i64 x.r.k, .int .i64 x.r.t, .int .i64 x.r.v, .bool x.hl, .bool x.hr, .bool true] 72)) := (ExtM.refl _).alloc _
  replace hbc := hbc.of x1 id
  replace hm := hm.of x1 id
  clear c0 c1 f0 f1
  generalize w.alloc (.cells #[.int .i64 x.key, .int .i64 x.l.k, .int .i64 x.l.t, .int .i64 x.l.v, .int .i64 x.r.k, .int .i64 x.r.t, .int .i64 x.r.v, .bool x.hl, .bool x.hr, .bool true] 72) = w1 at *
  have hN : ¬ w.heap.size = d := by omega
  have hBn : ¬ B = d := fun e => hdB e.symm
  have hBN : ¬ B = w.heap.size := by omega
  generalize hn : w.heap.size = n at *
  have hlq := fun p => (hm.of (ext_E ExtM.refl w1.drew p |> fun h => ExtM.trans _ _ _ (ExtM.drew (ExtM.refl w1)) h : Ext w1 (Plan.ext Ext w1.drew p)) id).run_look false outLaw encO_inj Tryz.underlying36 zeroInt x (keyO x hx)
  simp only [hcnt.getD, encO_run, Bool.false_eq_true, if_false] at hlq
  have hz1 : (((l.count x : Nat) : Int) == 0) = false := by simp; omega
  have hz2 : (((l.count x : Nat) : Int) - 1 == 0) = true := by simp; omega
  have hlen : 0 < l.length := Nat.lt_of_lt_of_le (by omega) (List.count_le_length (a := x) (l := l))
  have hle : ((l.length : Int) - 1) = ((l.erase x).length : Int) := by rw [List.length_erase_of_mem (List.count_pos_iff.1 (by omega))]; omega
  have hokr : ∀ y ∈ l.erase x, y.ok := fun y hy => hok y (List.mem_of_mem_erase hy)
  have hc5 := hcnt.del x (.int .i64 (((l.count x : Nat) : Int) - 1)) hc1
  have hcc : 0 < ((l.count x : Nat) : Int) := by omega
  have HC1 := Lib.hid hc1
  clear hc1
  have HLE := Lib.hid hle
  clear hle
  have hnl : n < w1.heap.size := cell_lt' bx.e0
  have hB1 := hbc.lt
  obtain ⟨c0, c1, f0, f1⟩ := id hbc
  obtain ⟨e0, e1, e2, e3, e4, e5, e6, e7, e8, e9⟩ := id bx
  refine Plan.begin Plan.Ext 8 rfl (by kernel_rfl) ?_
  refine Plan.left_q 0 (by rfl) (by kernel_rfl) ?_; go_big_quiet_step (fail); refine wpQuiet_nil ?_
  refine Plan.left_q 1 (by rfl) (by kernel_rfl) ?_; go_big_quiet_step (fail); refine wpQuiet_nil ?_
  refine Plan.left_q 2 (by rfl) (by kernel_rfl) ?_; go_big_quiet_step (fail); refine wpQuiet_nil ?_
  refine Plan.left_q 3 (by rfl) (by kernel_rfl) ?_; go_big_quiet_step (fail); refine wpQuiet_nil ?_
  refine Plan.left_q 4 (by rfl) (by kernel_rfl) ?_; go_big_quiet_step (fail); refine wpQuiet_nil ?_
  refine Plan.left_q 5 (by rfl) (by kernel_rfl) ?_; go_big_quiet_step (fail); refine wpQuiet_nil ?_
  refine Plan.left_q 6 (by rfl) (by kernel_rfl) ?_; go_big_quiet_step (fail); refine wpQuiet_nil ?_
  refine Plan.left_q 7 (by rfl) (by kernel_rfl) ?_; go_big_quiet_step (fail); refine wpQuiet_nil ?_
  refine Plan.left_done (by kernel_rfl) ?_
  clear hnl hB1 c0 c1 f0 f1 e0 e1 e2 e3 e4 e5 e6 e7 e8 e9
  have xd : Ext w1 w1.drew := (ExtM.refl _).drew
  replace hm := hm.of xd id
  replace bx := bx.of xd id
  replace hbc := hbc.of xd id
  replace x1 := ExtM.trans _ _ _ x1 xd
  clear hlq xd
  go_wp2_with fail
  generalize w1.drew = v1 at *
  have hlk := (hm.of (ExtM.drew (ExtM.refl v1) : Ext v1 v1.drew) id).run_look false outLaw encO_inj Tryz.underlying36 zeroInt x (keyO x hx)
  obtain ⟨st, w2, hme, x2, z2, hlk2, hst⟩ := (hm.of (ExtM.drew (ExtM.refl v1) : Ext v1 v1.drew) id).run_entry outLaw encO_inj Tryz.underlying36 zeroInt x (keyO x hx)
  obtain ⟨w3, hst3, x3, z3, hm3⟩ := hst (.int .i64 ((l.count x : Int) - 1))
  rw [hcnt.getD] at hlk hme hlk2
  simp only [encO_run, Bool.false_eq_true, if_false] at hlk hme hlk2
  have y3 : ExtB d v1 w3 := ExtB.trans _ _ _ (ExtB.of_ext ((ExtM.refl v1).drew)) (ExtB.trans _ _ _ x2 x3)
  have hbc3 := hbc.of y3 hBn
  have bx3 := bx.of y3 hN
  clear z2 z3
  have hcb0 : 0 ≤ ((l.count x : Nat) : Int) := Int.natCast_nonneg _
  have hcb1 : ((l.count x : Nat) : Int) < 1000000000 := by have := List.count_le_length (a := x) (l := l); omega
  have hlq := fun p => (hm3.of (ext_E ExtM.refl w3.drew p |> fun h => ExtM.trans _ _ _ (ExtM.drew (ExtM.refl w3)) h : Ext w3 (Plan.ext Ext w3.drew p)) id).run_look false outLaw encO_inj Tryz.underlying36 zeroInt x (keyO x hx)
  simp only [look_putK, if_pos, Option.getD_some, encO_run, Bool.false_eq_true, if_false] at hlq
  generalize ((l.count x : Nat) : Int) = c at *
  have hnl : n < v1.heap.size := cell_lt' bx.e0
  have hB1 := hbc.lt
  obtain ⟨c0, c1, f0, f1⟩ := id hbc
  obtain ⟨e0, e1, e2, e3, e4, e5, e6, e7, e8, e9⟩ := id bx
  refine Plan.begin (Plan.ExtB d) 11 rfl (by kernel_rfl) ?_
  refine Plan.left_q 0 (by rfl) (by kernel_rfl) ?_; go_big_quiet_step (fail); refine wpQuiet_nil ?_
  refine Plan.left_q 1 (by rfl) (by kernel_rfl) ?_; go_big_quiet_step (fail); refine wpQuiet_nil ?_
  refine Plan.left_q 2 (by rfl) (by kernel_rfl) ?_; go_big_quiet_step (fail); refine wpQuiet_nil ?_
  refine Plan.left_q 3 (by rfl) (by kernel_rfl) ?_; go_big_quiet_step (fail); refine wpQuiet_nil ?_
  refine Plan.left_q 4 (by rfl) (by kernel_rfl) ?_; go_big_quiet_step (fail); refine wpQuiet_nil ?_
  refine Plan.left_q 5 (by rfl) (by kernel_rfl) ?_; go_big_quiet_step (fail); refine wpQuiet_nil ?_
  refine Plan.left_two 6 8 (by kernel_rfl) (by rfl) (by rfl) (Plan.plain rfl fun K hK => ?_) (Plan.plain rfl fun K hK => ?_)
  focus
    go_wp2_with (fail)
    refine hK _ _ (ExtM.refl _) ?_
    clear hK K
    refine Plan.left_q 7 (by rfl) (by kernel_rfl) ?_; go_big_quiet_step (fail); refine wpQuiet_nil ?_
    refine Plan.left_one 8 (by kernel_rfl) (by rfl) (Plan.plain rfl fun K hK => ?_)
    go_wp2_with (fail)
    refine hK _ _ (x2) ?_
    clear hK K
    refine Plan.left_q 9 (by rfl) (by kernel_rfl) ?_; go_big_quiet_step (fail); refine wpQuiet_nil ?_
    refine Plan.left_one 10 (by kernel_rfl) (by rfl) (Plan.plain rfl fun K hK => ?_)
    go_wp2_with (fail)
    refine hK _ _ (x3) ?_
    clear hK K
    refine Plan.left_done (by kernel_rfl) ?_
  rotate_left
  focus
    go_wp2_with (fail)
    refine hK _ _ (x2) ?_
    clear hK K
    refine Plan.left_q 9 (by rfl) (by kernel_rfl) ?_; go_big_quiet_step (fail); refine wpQuiet_nil ?_
    refine Plan.left_one 6 (by kernel_rfl) (by rfl) (Plan.plain rfl fun K hK => ?_)
    go_wp2_with (fail)
    refine hK _ _ (ExtM.refl _) ?_
    clear hK K
    refine Plan.left_q 7 (by rfl) (by kernel_rfl) ?_; go_big_quiet_step (fail); refine wpQuiet_nil ?_
    refine Plan.left_one 10 (by kernel_rfl) (by rfl) (Plan.plain rfl fun K hK => ?_)
    go_wp2_with (fail)
    refine hK _ _ (x3) ?_
    clear hK K
    refine Plan.left_done (by kernel_rfl) ?_
  all_goals
    clear hnl hB1 c0 c1 f0 f1 e0 e1 e2 e3 e4 e5 e6 e7 e8 e9
    go_wp2_with fail
    have hnl : n < w3.heap.size := cell_lt' bx3.e0
    have hB1 := hbc3.lt
    obtain ⟨c0, c1, f0, f1⟩ := id hbc3
    obtain ⟨e0, e1, e2, e3, e4, e5, e6, e7, e8, e9⟩ := id bx3
    refine Plan.begin Plan.Ext 8 rfl (by kernel_rfl) ?_
    refine Plan.left_q 0 (by rfl) (by kernel_rfl) ?_; go_big_quiet_step (fail); refine wpQuiet_nil ?_
    refine Plan.left_q 1 (by rfl) (by kernel_rfl) ?_; go_big_quiet_step (fail); refine wpQuiet_nil ?_
    refine Plan.left_q 2 (by rfl) (by kernel_rfl) ?_; go_big_quiet_step (fail); refine wpQuiet_nil ?_
    refine Plan.left_q 3 (by rfl) (by kernel_rfl) ?_; go_big_quiet_step (fail); refine wpQuiet_nil ?_
    refine Plan.left_q 4 (by rfl) (by kernel_rfl) ?_; go_big_quiet_step (fail); refine wpQuiet_nil ?_
    refine Plan.left_q 5 (by rfl) (by kernel_rfl) ?_; go_big_quiet_step (fail); refine wpQuiet_nil ?_
    refine Plan.left_q 6 (by rfl) (by kernel_rfl) ?_; go_big_quiet_step (fail); refine wpQuiet_nil ?_
    refine Plan.left_q 7 (by rfl) (by kernel_rfl) ?_; go_big_quiet_step (fail); refine wpQuiet_nil ?_
    refine Plan.left_done (by kernel_rfl) ?_
    clear hnl hB1 c0 c1 f0 f1 e0 e1 e2 e3 e4 e5 e6 e7 e8 e9
    have xd : Ext w3 w3.drew := (ExtM.refl _).drew
    have hm4 := hm3.of xd id
    have bx4 := bx3.of xd id
    have hbc4 := hbc3.of xd id
    have y4 : ExtB d v1 w3.drew := ExtB.trans _ _ _ y3 (ExtB.of_ext xd)
    clear xd hbc3 bx3 hm3 y3 x3 hlq
    generalize w3.drew = w4 at *
    go_wp2_with fail
    obtain ⟨w5, hdel, x5, -, hm5⟩ := (hm4.of (ExtM.drew (ExtM.refl w4) : Ext w4 w4.drew) id).run_delete outLaw encO_inj Tryz.underlying36 x (keyO x hx)
    simp only [encO_run] at hdel
    have y5 : ExtB d w4 w5 := ExtB.trans _ _ _ (ExtB.of_ext ((ExtM.refl w4).drew)) x5
    have hbc5 := hbc4.of y5 hBn
    have hnl : n < w4.heap.size := cell_lt' bx4.e0
    have hB1 := hbc4.lt
    obtain ⟨c0, c1, f0, f1⟩ := id hbc4
    obtain ⟨e0, e1, e2, e3, e4, e5, e6, e7, e8, e9⟩ := id bx4
    refine Plan.begin (Plan.ExtB d) 7 rfl (by kernel_rfl) ?_
    refine Plan.left_q 0 (by rfl) (by kernel_rfl) ?_; go_big_quiet_step (fail); refine wpQuiet_nil ?_
    refine Plan.left_q 1 (by rfl) (by kernel_rfl) ?_; go_big_quiet_step (fail); refine wpQuiet_nil ?_
    refine Plan.left_q 2 (by rfl) (by kernel_rfl) ?_; go_big_quiet_step (fail); refine wpQuiet_nil ?_
    refine Plan.left_q 3 (by rfl) (by kernel_rfl) ?_; go_big_quiet_step (fail); refine wpQuiet_nil ?_
    refine Plan.left_q 4 (by rfl) (by kernel_rfl) ?_; go_big_quiet_step (fail); refine wpQuiet_nil ?_
    refine Plan.left_q 5 (by rfl) (by kernel_rfl) ?_; go_big_quiet_step (fail); refine wpQuiet_nil ?_
    refine Plan.left_one 6 (by kernel_rfl) (by rfl) (Plan.plain rfl fun K hK => ?_)
    go_wp2_with (fail)
    refine hK _ _ (x5) ?_
    clear hK K
    refine Plan.left_done (by kernel_rfl) ?_
    clear hnl hB1 c0 c1 f0 f1 e0 e1 e2 e3 e4 e5 e6 e7 e8 e9
    have hlt5 := hbc5.lt
    obtain ⟨c0, c1, f0, f1⟩ := id hbc5
    go_wp2_with fail
    go_ret
    refine ⟨rfl, ?_, BagIs.store' hbc5 hokr hBn hm5 hc5 _ HLE.out, (((OnlyAt.refl w).step x1 (by rw [hn]; exact hB) (fun h => h)).step (ExtB.trans _ _ _ y4 y5) hbc.lt hBn).set (.inr rfl) _⟩
    exact ExtM.setCell (ExtM.trans _ _ _ (ExtM.mono x1 (fun _ _ h => h.elim)) (ExtM.mono (ExtB.trans _ _ _ y4 y5) (fun k _ h => .inr (congrArg some h.symm)))) (.inr (.inl rfl)) _

theorem bagDel_c (B o d : Nat) (l : List Out) (x : Out) (w : World) (h : BagIs w B o (some d) l) (hx : x.ok) (hl : l.length < 1000000000) (hc1 : l.count x = 1) :
    Calls Tryz.prog 82 #[.pointer (some ⟨B, o, none⟩), encC x true] w fun e w' => e = .returned .nilIface ∧ ExtM (bagM B (some d)) w w' ∧ BagIs w' B o (some d) (l.erase x) :=
  (bagDelO_c B o d l x w h hx hl hc1).mono fun _e _w' hh => ⟨hh.1, hh.2.1, hh.2.2.1⟩

set_option maxRecDepth 100000 in
set_option maxHeartbeats 4000000 in
/-- One less is none. -/
theorem bagNone_c (B o d : Nat) (l : List Out) (x : Out) (w : World) (h : BagIs w B o (some d) l) (hx : x.ok) (hc1 : l.count x = 0) :
    Calls Tryz.prog 82 #[.pointer (some ⟨B, o, none⟩), encC x true] w fun e w' => e = .returned (.iface 48 (.int .i64 8)) ∧ Ext w w' := by
  have hB := h.ltB
  obtain ⟨d', m, hd, hdB, hm, hcnt⟩ := h.mp.resolve_left (by rintro ⟨h, -⟩; cases h)
  obtain rfl : d = d' := Option.some.inj hd
  have hdw := hm.lt
  have hok := h.ok
  have hbc := h.cells
  obtain ⟨c0, c1, f0, f1⟩ := id hbc
  clear h hd
  unfold encC
  go_enter Tryz.func82, Tryz.ntmps82
  go_wp2_with fail
  have bx := BoxC.mk' w x true 72
  have x1 : Ext w (w.alloc (.cells #[.int .i64 x.key, .int .i64 x.l.k, .int .i64 x.l.t, .int .i64 x.l.v, .int .i64 x.r.k, .int .i64 x.r.t, .int .i64 x.r.v, .bool x.hl, .bool x.hr, .bool true] 72)) := (ExtM.refl _).alloc _
  replace hbc := hbc.of x1 id
  replace hm := hm.of x1 id
  clear c0 c1 f0 f1
  generalize w.alloc (.cells #[.int .i64 x.key, .int .i64 x.l.k, .int .i64 x.l.t, .int .i64 x.l.v, .int .i64 x.r.k, .int .i64 x.r.t, .int .i64 x.r.v, .bool x.hl, .bool x.hr, .bool true] 72) = w1 at *
  have hN : ¬ w.heap.size = d := by omega
  have hBn : ¬ B = d := fun e => hdB e.symm
  have hBN : ¬ B = w.heap.size := by omega
  generalize hn : w.heap.size = n at *
  have hlq := fun p => (hm.of (ext_E ExtM.refl w1.drew p |> fun h => ExtM.trans _ _ _ (ExtM.drew (ExtM.refl w1)) h : Ext w1 (Plan.ext Ext w1.drew p)) id).run_look false outLaw encO_inj Tryz.underlying36 zeroInt x (keyO x hx)
  simp only [hcnt.getD, encO_run, Bool.false_eq_true, if_false, hc1] at hlq
  clear hc1
  have hnl : n < w1.heap.size := cell_lt' bx.e0
  have hB1 := hbc.lt
  obtain ⟨c0, c1, f0, f1⟩ := id hbc
  obtain ⟨e0, e1, e2, e3, e4, e5, e6, e7, e8, e9⟩ := id bx
  refine Plan.begin Plan.Ext 8 rfl (by kernel_rfl) ?_
  refine Plan.left_q 0 (by rfl) (by kernel_rfl) ?_; go_big_quiet_step (fail); refine wpQuiet_nil ?_
  refine Plan.left_q 1 (by rfl) (by kernel_rfl) ?_; go_big_quiet_step (fail); refine wpQuiet_nil ?_
  refine Plan.left_q 2 (by rfl) (by kernel_rfl) ?_; go_big_quiet_step (fail); refine wpQuiet_nil ?_
  refine Plan.left_q 3 (by rfl) (by kernel_rfl) ?_; go_big_quiet_step (fail); refine wpQuiet_nil ?_
  refine Plan.left_q 4 (by rfl) (by kernel_rfl) ?_; go_big_quiet_step (fail); refine wpQuiet_nil ?_
  refine Plan.left_q 5 (by rfl) (by kernel_rfl) ?_; go_big_quiet_step (fail); refine wpQuiet_nil ?_
  refine Plan.left_q 6 (by rfl) (by kernel_rfl) ?_; go_big_quiet_step (fail); refine wpQuiet_nil ?_
  refine Plan.left_q 7 (by rfl) (by kernel_rfl) ?_; go_big_quiet_step (fail); refine wpQuiet_nil ?_
  refine Plan.left_done (by kernel_rfl) ?_
  clear hnl hB1 c0 c1 f0 f1 e0 e1 e2 e3 e4 e5 e6 e7 e8 e9
  go_wp2_with fail
  go_ret
  exact ⟨rfl, x1.drew⟩

set_option maxRecDepth 100000 in
set_option maxHeartbeats 4000000 in
theorem bagNone0_c (B o : Nat) (l : List Out) (x : Out) (w : World) (h : BagIs w B o none l) (hx : x.ok) :
    Calls Tryz.prog 82 #[.pointer (some ⟨B, o, none⟩), encC x true] w fun e w' => e = .returned (.iface 48 (.int .i64 8)) ∧ Ext w w' := by
  have hB := h.ltB
  have hbc := h.cells
  obtain ⟨c0, c1, f0, f1⟩ := id hbc
  clear h
  unfold encC
  go_enter Tryz.func82, Tryz.ntmps82
  go_wp2_with fail
  have bx := BoxC.mk' w x true 72
  have x1 : Ext w (w.alloc (.cells #[.int .i64 x.key, .int .i64 x.l.k, .int .i64 x.l.t, .int .i64 x.l.v, .int .i64 x.r.k, .int .i64 x.r.t, .int .i64 x.r.v, .bool x.hl, .bool x.hr, .bool true] 72)) := (ExtM.refl _).alloc _
  replace hbc := hbc.of x1 id
  clear c0 c1 f0 f1
  generalize w.alloc (.cells #[.int .i64 x.key, .int .i64 x.l.k, .int .i64 x.l.t, .int .i64 x.l.v, .int .i64 x.r.k, .int .i64 x.r.t, .int .i64 x.r.v, .bool x.hl, .bool x.hr, .bool true] 72) = w1 at *
  have hBN : ¬ B = w.heap.size := by omega
  generalize hn : w.heap.size = n at *
  have hlq := fun u => look_nilO x hx u
  simp only [encO_run] at hlq
  have hnl : n < w1.heap.size := cell_lt' bx.e0
  have hB1 := hbc.lt
  obtain ⟨c0, c1, f0, f1⟩ := id hbc
  obtain ⟨e0, e1, e2, e3, e4, e5, e6, e7, e8, e9⟩ := id bx
  refine Plan.begin Plan.Ext 8 rfl (by kernel_rfl) ?_
  refine Plan.left_q 0 (by rfl) (by kernel_rfl) ?_; go_big_quiet_step (fail); refine wpQuiet_nil ?_
  refine Plan.left_q 1 (by rfl) (by kernel_rfl) ?_; go_big_quiet_step (fail); refine wpQuiet_nil ?_
  refine Plan.left_q 2 (by rfl) (by kernel_rfl) ?_; go_big_quiet_step (fail); refine wpQuiet_nil ?_
  refine Plan.left_q 3 (by rfl) (by kernel_rfl) ?_; go_big_quiet_step (fail); refine wpQuiet_nil ?_
  refine Plan.left_q 4 (by rfl) (by kernel_rfl) ?_; go_big_quiet_step (fail); refine wpQuiet_nil ?_
  refine Plan.left_q 5 (by rfl) (by kernel_rfl) ?_; go_big_quiet_step (fail); refine wpQuiet_nil ?_
  refine Plan.left_q 6 (by rfl) (by kernel_rfl) ?_; go_big_quiet_step (fail); refine wpQuiet_nil ?_
  refine Plan.left_q 7 (by rfl) (by kernel_rfl) ?_; go_big_quiet_step (fail); refine wpQuiet_nil ?_
  refine Plan.left_done (by kernel_rfl) ?_
  clear hnl hB1 c0 c1 f0 f1 e0 e1 e2 e3 e4 e5 e6 e7 e8 e9
  go_wp2_with fail
  go_ret
  exact ⟨rfl, x1.drew⟩

end Go.Proofs.YtmcgnnmffeojpaaGreatDoor
namespace Go.Proofs.YtmcgnnmffeojpaaGreatDoor
open Go.RowKit Go.Plan

/-- An append whose run is known, at the operation. -/
theorem wpList_append_run {P : Program} {w w' : World} {ops : Array Oper} {rest : List Oper} {o : Oper} {a : Act} {Q : Exit → Act → World → Prop} {t ty : TypeId} {v x v' : Value} (hr : (Builtin.append_ #[t, t] ty #[v, x]).run P w = .ok v' w') (hgd : o.guard = none) (hty : o.type = ty) (so xo : Operand)
    (ho : o.op = .call { callee := .builtin .append, args := #[so, xo], argTypes := #[t, t] }) (hs : a.eval so = v) (hx : a.eval xo = x) (h : wpList P ops Q rest (a.put o.dst v') w') : wpList P ops Q (o :: rest) a w := by
  refine wpList_plain hgd fun K hK' => ?_
  subst hty
  unfold Oper.wp execOp
  simp only [ho, resolve, invoke, builtin, Sem.run_bind, Sem.run_pure, Result.andThen_ok, List.map_toArray, List.map_cons, List.map_nil, hs, hx, hr]
  exact hK' _ _ h

/-- The cells of an Out that lies in a block of its own. -/
structure BoxO (w : World) (n : Nat) (x : Out) : Prop where
  e0 : w.cell? ⟨n, 0, none⟩ = some (.int .i64 x.key)
  e1 : w.cell? ⟨n, 1, none⟩ = some (.int .i64 x.l.k)
  e2 : w.cell? ⟨n, 2, none⟩ = some (.int .i64 x.l.t)
  e3 : w.cell? ⟨n, 3, none⟩ = some (.int .i64 x.l.v)
  e4 : w.cell? ⟨n, 4, none⟩ = some (.int .i64 x.r.k)
  e5 : w.cell? ⟨n, 5, none⟩ = some (.int .i64 x.r.t)
  e6 : w.cell? ⟨n, 6, none⟩ = some (.int .i64 x.r.v)
  e7 : w.cell? ⟨n, 7, none⟩ = some (.bool x.hl)
  e8 : w.cell? ⟨n, 8, none⟩ = some (.bool x.hr)
theorem BoxO.mk' (w : World) (x : Out) (t : TypeId) : BoxO (w.alloc (.cells #[.int .i64 x.key, .int .i64 x.l.k, .int .i64 x.l.t, .int .i64 x.l.v, .int .i64 x.r.k, .int .i64 x.r.t, .int .i64 x.r.v, .bool x.hl, .bool x.hr] t)) w.heap.size x := by
  constructor <;> go_simp
theorem BoxO.keep {w w' : World} {n : Nat} {x : Out} (h : BoxO w n x) (hb : w'.heap[n]? = w.heap[n]?) : BoxO w' n x := by
  have r : ∀ i, w'.cell? ⟨n, i, none⟩ = w.cell? ⟨n, i, none⟩ := fun i => World.cell?_of_block (w := w) (w' := w') (a := ⟨n, i, none⟩) hb
  exact ⟨(r 0).trans h.e0, (r 1).trans h.e1, (r 2).trans h.e2, (r 3).trans h.e3, (r 4).trans h.e4, (r 5).trans h.e5, (r 6).trans h.e6, (r 7).trans h.e7, (r 8).trans h.e8⟩
theorem BoxO.lt {w : World} {n : Nat} {x : Out} (h : BoxO w n x) : n < w.heap.size := cell_lt' h.e0
theorem BoxO.cells {w : World} {n : Nat} {x : Out} (h : BoxO w n x) : ∀ j, j < 9 → w.cell? ⟨n, j, none⟩ = x.cells[j]? := by
  intro j hj
  match j, hj with
  | 0, _ => exact h.e0
  | 1, _ => exact h.e1
  | 2, _ => exact h.e2
  | 3, _ => exact h.e3
  | 4, _ => exact h.e4
  | 5, _ => exact h.e5
  | 6, _ => exact h.e6
  | 7, _ => exact h.e7
  | 8, _ => exact h.e8
theorem heap_alloc_lt {w : World} {o : Obj} {k : Nat} (h : k < w.heap.size) : (w.alloc o).heap[k]? = w.heap[k]? := Below.heap_alloc _ _ _ h
end Go.Proofs.YtmcgnnmffeojpaaGreatDoor
