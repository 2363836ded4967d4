/- A fact of the laws: two rows that meet, the first one told ahead. -/
import Derived.Test.YtmcgnnmffeojpaaGreatDoorPk10
import Derived.Test.YtmcgnnmffeojpaaGreatDoorPk26
import Derived.Test.YtmcgnnmffeojpaaGreatDoorPk28
import Derived.Deep.DeepCutAuto
import Derived.Deep.CutBlock
namespace Go.Proofs.YtmcgnnmffeojpaaGreatDoor
open Go.RowKit Go.Plan

def mL : Row := ⟨1, 10, 3⟩
def mR : Row := ⟨1, 12, 4⟩
def mS0 : JSt := ⟨[], [], -1099511627777, -1099511627777, 0⟩
def mS1 : JSt := ⟨[⟨mL, 0⟩], [], -1099511627777, -1099511627777, 0⟩
theorem mE0 : feedE 0 5 0 mL mS0.x mS0.y (mS0.of 0).length = 0 := by decide
theorem mC0 : feedC 0 5 1 0 mL mS0 = [(loneS 0 mL, false)] := by decide
theorem mJ0 : feedJ 0 5 0 mL mS0 = mS1 := by rfl
theorem mE1 : feedE 0 5 1 mR mS1.x mS1.y (mS1.of 1).length = 0 := by decide
theorem mC1 : feedC 0 5 1 1 mR mS1 = [(loneS 0 mL, true), (pairO mL mR, false)] := by decide
/-- The view of an engine. -/
theorem view_c {u : World} {E : Nat} {Bs : Nat → Prop} {lo hi md : Int} {st : JSt} {V W : List Out} {f0 f1 : Int} (h : EAt u E Bs lo hi md st V W f0 f1) (hl : V.length < 1000000) :
    Calls Tryz.prog 10 #[.pointer (some ⟨E, 0, none⟩)] u (OutsV u (sortO V)) := by
  have c0 := h.lt _ h.mine
  have hv := en_all h hl
  go_enter Tryz.func10, Tryz.ntmps10
  go_wp2_with (go_at_call 30; refine hv.mono ?_; rintro e w1 ⟨p, cap, rfl, hx, ho⟩)
  go_ret
  exact ⟨p, cap, rfl, hx, ho⟩
theorem m_feed0 {u : World} {E : Nat} {Bs : Nat → Prop} (h : EAt u E Bs 0 5 1 mS0 [] [] 0 0) (hL : Laid u) (hz : ¬ Bs 0) :
    Calls Tryz.prog 25 #[.pointer (some ⟨E, 0, none⟩), .int .i64 0, .agg #[.int .i64 1, .int .i64 10, .int .i64 3]] u fun e u' =>
      ∃ vo, e = .returned (.tuple #[vo, .nilIface]) ∧ CRow u' u.heap.size vo [(loneS 0 mL, false)] ∧ EUpV u u' E Bs 0 5 1 mS1 [loneS 0 mL] [loneS 0 mL] 1 0 vo := by
  have h1 := en_feedV0 h (by unfold PlanOk; decide) (by decide) (by decide) hL hz 1 10 3 (by show ValidV [] (feedC 0 5 1 0 mL mS0); rw [mC0]; exact ⟨(fun h => nomatch h), trivial⟩) (by decide)
  have e1 : feedE 0 5 0 ⟨1, 10, 3⟩ mS0.x mS0.y (mS0.of 0).length = 0 := mE0
  have e2 : feedC 0 5 1 0 ⟨1, 10, 3⟩ mS0 = [(loneS 0 mL, false)] := mC0
  have e3 : feedJ 0 5 0 ⟨1, 10, 3⟩ mS0 = mS1 := mJ0
  have e4 : applyV [] [(loneS 0 mL, false)] = [loneS 0 mL] := rfl
  have e5 : fedI 0 0 = 1 := by unfold fedI; rw [if_pos (.inl rfl)]; unfold wrap64; omega
  have er : errV 0 = .nilIface := rfl
  rw [e1, e2, e3, e4, e5, er] at h1
  exact h1
theorem m_feed1 {u : World} {E : Nat} {Bs : Nat → Prop} (h : EAt u E Bs 0 5 1 mS1 [loneS 0 mL] [loneS 0 mL] 1 0) (hL : Laid u) (hz : ¬ Bs 0) :
    Calls Tryz.prog 25 #[.pointer (some ⟨E, 0, none⟩), .int .i64 1, .agg #[.int .i64 1, .int .i64 12, .int .i64 4]] u fun e u' =>
      ∃ vo, e = .returned (.tuple #[vo, .nilIface]) ∧ CRow u' u.heap.size vo [(loneS 0 mL, true), (pairO mL mR, false)] ∧ ∃ st, EUp u u' E Bs 0 5 1 st [pairO mL mR] [pairO mL mR] 1 1 := by
  have h1 := en_feed1 h (by unfold PlanOk; decide) (by decide) (by decide) hL hz 1 12 4 (by show ValidV [loneS 0 mL] (feedC 0 5 1 1 mR mS1); rw [mC1]; exact ⟨(fun _ => by decide), (fun h => nomatch h), trivial⟩) (by decide)
  have e1 : feedE 0 5 1 ⟨1, 12, 4⟩ mS1.x mS1.y (mS1.of 1).length = 0 := mE1
  have e2 : feedC 0 5 1 1 ⟨1, 12, 4⟩ mS1 = [(loneS 0 mL, true), (pairO mL mR, false)] := mC1
  have e4 : applyV [loneS 0 mL] [(loneS 0 mL, true), (pairO mL mR, false)] = [pairO mL mR] := by decide
  have e5 : fedI 0 0 = 1 := by unfold fedI; rw [if_pos (.inl rfl)]; unfold wrap64; omega
  have er : errV 0 = .nilIface := rfl
  rw [e1, e2, e4, e5, er] at h1
  refine h1.mono ?_
  rintro e u' ⟨vo, he, hr, hu⟩
  exact ⟨vo, he, hr, _, hu⟩
set_option maxRecDepth 100000 in
set_option maxHeartbeats 4000000 in
theorem met_c (w : World) (hL : Laid w) : Calls Tryz.prog 7 #[] w fun e w' => e = .returned (.bool true) ∧ Ext w w' := by
  have hw0 : 0 < w.heap.size := cell_lt hL
  go_enter Tryz.func7, Tryz.ntmps7
  go_upto_region 4 with (go_at_call 24; refine (en_new 0 5 1 _ (by decide)).mono ?_; rintro e w1 ⟨E, Bs, rfl, hx1, hBs, hat⟩)
  have hz : ¬ Bs 0 := fun e => by have := hBs 0 e; omega
  go_upto_region 5 with fail
  have q0 : Ext w1 ((w1.alloc (.cells #[.int .i64 1, .int .i64 10, .int .i64 3] 56)).alloc (.cells #[.int .i64 1, .int .i64 12, .int .i64 4] 56)) := ((ExtM.refl _).alloc _).alloc _
  have a0 : ((w1.alloc (.cells #[.int .i64 1, .int .i64 10, .int .i64 3] 56)).alloc (.cells #[.int .i64 1, .int .i64 12, .int .i64 4] 56)).cell? ⟨w1.heap.size + 0, 0, none⟩ = some (.int .i64 1) := by go_simp
  have a1 : ((w1.alloc (.cells #[.int .i64 1, .int .i64 10, .int .i64 3] 56)).alloc (.cells #[.int .i64 1, .int .i64 12, .int .i64 4] 56)).cell? ⟨w1.heap.size + 0, 1, none⟩ = some (.int .i64 10) := by go_simp
  have a2 : ((w1.alloc (.cells #[.int .i64 1, .int .i64 10, .int .i64 3] 56)).alloc (.cells #[.int .i64 1, .int .i64 12, .int .i64 4] 56)).cell? ⟨w1.heap.size + 0, 2, none⟩ = some (.int .i64 3) := by go_simp
  have b0 : ((w1.alloc (.cells #[.int .i64 1, .int .i64 10, .int .i64 3] 56)).alloc (.cells #[.int .i64 1, .int .i64 12, .int .i64 4] 56)).cell? ⟨w1.heap.size + 1, 0, none⟩ = some (.int .i64 1) := by go_simp
  have b1 : ((w1.alloc (.cells #[.int .i64 1, .int .i64 10, .int .i64 3] 56)).alloc (.cells #[.int .i64 1, .int .i64 12, .int .i64 4] 56)).cell? ⟨w1.heap.size + 1, 1, none⟩ = some (.int .i64 12) := by go_simp
  have b2 : ((w1.alloc (.cells #[.int .i64 1, .int .i64 10, .int .i64 3] 56)).alloc (.cells #[.int .i64 1, .int .i64 12, .int .i64 4] 56)).cell? ⟨w1.heap.size + 1, 2, none⟩ = some (.int .i64 4) := by go_simp
  have hat2 := hat.ext q0
  have hX2 : Ext w _ := ExtM.trans _ _ _ hx1 q0
  have hnb : ¬ Bs w1.heap.size := fun e => by have := hat.lt _ e; omega
  have hnb2 : ¬ Bs (w1.heap.size + 1) := fun e => by have := hat.lt _ e; omega
  clear hat q0 hx1
  generalize (w1.alloc (.cells #[.int .i64 1, .int .i64 10, .int .i64 3] 56)).alloc (.cells #[.int .i64 1, .int .i64 12, .int .i64 4] 56) = w2 at *
  have l1 := cell_lt' a0
  have l2 := cell_lt' b0
  simp only [Nat.add_zero] at a0 a1 a2 l1 l2
  generalize w1.heap.size = n at *
  go_upto_region 6 with (go_at_call 25; refine (m_feed0 hat2 (hL.of hX2) hz).mono ?_; rintro e w3 ⟨vo, rfl, hr3, hx3, Bs3, hat3, hB3, hv3⟩)
  have k3 := fun o => hx3.cell (p := ⟨n, o, none⟩) l1 hnb
  have j3 := fun o => hx3.cell (p := ⟨n + 1, o, none⟩) l2 hnb2
  have c0 := (k3 0).trans a0
  have c1 := (k3 1).trans a1
  have c2 := (k3 2).trans a2
  have d0 := (j3 0).trans b0
  have d1 := (j3 1).trans b1
  have d2 := (j3 2).trans b2
  have hX3 : Ext w w3 := hX2.fresh hx3 (fun k hk e => by have := hBs k e; omega)
  have hz3 : ¬ Bs3 0 := fun e => by rcases hB3 0 e with e | e <;> first | exact hz e | omega
  have hn3 : ¬ Bs3 n := fun e => by rcases hB3 n e with e | e <;> first | exact hnb e | omega
  have hn3' : ¬ Bs3 (n + 1) := fun e => by rcases hB3 _ e with e | e <;> first | exact hnb2 e | omega
  have hB3' : ∀ k, Bs3 k → w.heap.size ≤ k := fun k hk => by
    rcases hB3 k hk with e | e
    · exact hBs k e
    · have := hX2.size; omega
  clear k3 j3 a0 a1 a2 b0 b1 b2 l1 l2 hat2 hnb hnb2 hB3 hx3 hX2 hBs hz
  have l1 := cell_lt' c0
  have l2 := cell_lt' d0
  simp only at l1 l2
  go_upto_region 7 with (go_at_call 25; refine (m_feed1 hat3 (hL.of hX3) hz3).mono ?_; rintro e w4 ⟨vq, rfl, hr4, st4, hx4, Bs4, hat4, hB4⟩)
  have k4 := fun o => hx4.cell (p := ⟨n, o, none⟩) l1 hn3
  have j4 := fun o => hx4.cell (p := ⟨n + 1, o, none⟩) l2 hn3'
  have f0 := (k4 0).trans c0
  have f1 := (k4 1).trans c1
  have f2 := (k4 2).trans c2
  have g0 := (j4 0).trans d0
  have g1 := (j4 1).trans d1
  have g2 := (j4 2).trans d2
  have hX4 : Ext w w4 := hX3.fresh hx4 (fun k hk e => by have := hB3' k e; omega)
  have hr34 : CRow w4 _ vo _ := own_ext hr3 hx4 hv3
  obtain ⟨ga, ca, rfl, hga, ya⟩ := crow_cells hr34 0 _ rfl
  obtain ⟨gb, cb, hgbe, hgb, yb⟩ := crow_cells hr4 0 _ rfl
  subst hgbe
  obtain ⟨gb', cb', hgbe, -, yc⟩ := crow_cells hr4 1 _ rfl
  simp only [Value.slice.injEq, Option.some.injEq, Addr.mk.injEq, and_true, true_and] at hgbe
  obtain ⟨rfl, rfl⟩ := hgbe
  clear k4 j4 c0 c1 c2 d0 d1 d2 l1 l2 hat3 hn3 hn3' hv3 hr3 hr34 hr4 hx4 hX3 hz3
  have x0 := ya 0 _ rfl
  have x1 := ya 1 _ rfl
  have x2 := ya 2 _ rfl
  have x3 := ya 3 _ rfl
  have x4 := ya 4 _ rfl
  have x5 := ya 5 _ rfl
  have x6 := ya 6 _ rfl
  have x7 := ya 7 _ rfl
  have x8 := ya 8 _ rfl
  have x9 := ya 9 _ rfl
  have y0 := yb 0 _ rfl
  have y1 := yb 1 _ rfl
  have y2 := yb 2 _ rfl
  have y3 := yb 3 _ rfl
  have y4 := yb 4 _ rfl
  have y5 := yb 5 _ rfl
  have y6 := yb 6 _ rfl
  have y7 := yb 7 _ rfl
  have y8 := yb 8 _ rfl
  have y9 := yb 9 _ rfl
  have z0 := yc 0 _ rfl
  have z1 := yc 1 _ rfl
  have z2 := yc 2 _ rfl
  have z3 := yc 3 _ rfl
  have z4 := yc 4 _ rfl
  have z5 := yc 5 _ rfl
  have z6 := yc 6 _ rfl
  have z7 := yc 7 _ rfl
  have z8 := yc 8 _ rfl
  have z9 := yc 9 _ rfl
  clear ya yb yc
  simp only [Nat.add_zero, Nat.zero_mul, Nat.zero_add, Nat.one_mul, loneS, pairO, mL, mR, if_true] at x0 x1 x2 x3 x4 x5 x6 x7 x8 x9 y0 y1 y2 y3 y4 y5 y6 y7 y8 y9 z0 z1 z2 z3 z4 z5 z6 z7 z8 z9
  have l1 := cell_lt' f0
  have l2 := cell_lt' g0
  simp only at l1 l2
  simp only [List.length_cons, List.length_nil, Nat.zero_add]
  refine Plan.begin Plan.Ext 20 rfl (by kernel_rfl) ?_
  refine Plan.left_q 0 (by rfl) (by kernel_rfl) ?_; go_big_quiet_step (fail); refine wpQuiet_nil ?_
  refine Plan.left_q 1 (by rfl) (by kernel_rfl) ?_; go_big_quiet_step (fail); refine wpQuiet_nil ?_
  refine Plan.left_q 2 (by rfl) (by kernel_rfl) ?_; go_big_quiet_step (fail); refine wpQuiet_nil ?_
  refine Plan.left_q 3 (by rfl) (by kernel_rfl) ?_; go_big_quiet_step (fail); refine wpQuiet_nil ?_
  refine Plan.left_q 4 (by rfl) (by kernel_rfl) ?_; go_big_quiet_step (fail); refine wpQuiet_nil ?_
  refine Plan.left_q 5 (by rfl) (by kernel_rfl) ?_; go_big_quiet_step (fail); refine wpQuiet_nil ?_
  refine Plan.left_q 6 (by rfl) (by kernel_rfl) ?_; go_big_quiet_step (fail); refine wpQuiet_nil ?_
  refine Plan.left_q 7 (by rfl) (by kernel_rfl) ?_; go_big_quiet_step (fail); refine wpQuiet_nil ?_
  refine Plan.left_q 8 (by rfl) (by kernel_rfl) ?_; go_big_quiet_step (fail); refine wpQuiet_nil ?_
  refine Plan.left_q 9 (by rfl) (by kernel_rfl) ?_; go_big_quiet_step (fail); refine wpQuiet_nil ?_
  refine Plan.left_q 10 (by rfl) (by kernel_rfl) ?_; go_big_quiet_step (fail); refine wpQuiet_nil ?_
  refine Plan.left_q 11 (by rfl) (by kernel_rfl) ?_; go_big_quiet_step (fail); refine wpQuiet_nil ?_
  refine Plan.left_q 12 (by rfl) (by kernel_rfl) ?_; go_big_quiet_step (fail); refine wpQuiet_nil ?_
  refine Plan.left_q 13 (by rfl) (by kernel_rfl) ?_; go_big_quiet_step (fail); refine wpQuiet_nil ?_
  refine Plan.left_q 14 (by rfl) (by kernel_rfl) ?_; go_big_quiet_step (fail); refine wpQuiet_nil ?_
  refine Plan.left_q 15 (by rfl) (by kernel_rfl) ?_; go_big_quiet_step (fail); refine wpQuiet_nil ?_
  refine Plan.left_one 16 (by kernel_rfl) (by rfl) (Plan.want rfl fun K hK => ?_)
  go_wp2_with (fail)
  refine (lone0_c _ _ _ _).mono ?_
  rintro e w5 ⟨rfl, h5⟩
  have H5 := ExtM.trans _ _ _ (ExtM.refl _).drew h5
  obtain ⟨hc5, hf5, -⟩ := Ext.rules H5
  have hs5_0 : n < w5.heap.size := by have := H5.size; (try simp at this); omega
  have hs5_1 : n+1 < w5.heap.size := by have := H5.size; (try simp at this); omega
  have hs5_2 : ga < w5.heap.size := by have := H5.size; (try simp at this); omega
  have hs5_3 : gb < w5.heap.size := by have := H5.size; (try simp at this); omega
  go_wp2_with (fail)
  refine hK _ _ h5 ?_
  clear hK K
  refine Plan.left_q 17 (by rfl) (by kernel_rfl) ?_; go_big_quiet_step (fail); refine wpQuiet_nil ?_
  refine Plan.left_q 18 (by rfl) (by kernel_rfl) ?_; go_big_quiet_step (fail); refine wpQuiet_nil ?_
  refine Plan.left_q 19 (by rfl) (by kernel_rfl) ?_; go_big_quiet_step (fail); refine wpQuiet_nil ?_
  refine Plan.left_done (by kernel_rfl) ?_
  have hsl : (sortO [pairO mL mR]).length = 1 := by rw [sortO_length]; rfl
  have hX5 : Ext w w5 := ExtM.trans _ _ _ hX4 H5
  have k5 := fun o => H5.cell (p := ⟨n, o, none⟩) l1 (fun h => h)
  have j5 := fun o => H5.cell (p := ⟨n + 1, o, none⟩) l2 (fun h => h)
  have ka := fun o => H5.cell (p := ⟨ga, o, none⟩) hga (fun h => h)
  have kb := fun o => H5.cell (p := ⟨gb, o, none⟩) hgb (fun h => h)
  have hat5 := hat4.ext H5
  clear hc5 hf5 hs5_0 hs5_1 hs5_2 hs5_3
  replace f0 := (k5 _).trans f0
  replace f1 := (k5 _).trans f1
  replace f2 := (k5 _).trans f2
  replace g0 := (j5 _).trans g0
  replace g1 := (j5 _).trans g1
  replace g2 := (j5 _).trans g2
  replace y0 := (kb _).trans y0
  replace y1 := (kb _).trans y1
  replace y2 := (kb _).trans y2
  replace y3 := (kb _).trans y3
  replace y4 := (kb _).trans y4
  replace y5 := (kb _).trans y5
  replace y6 := (kb _).trans y6
  replace y7 := (kb _).trans y7
  replace y8 := (kb _).trans y8
  replace y9 := (kb _).trans y9
  replace z0 := (kb _).trans z0
  replace z1 := (kb _).trans z1
  replace z2 := (kb _).trans z2
  replace z3 := (kb _).trans z3
  replace z4 := (kb _).trans z4
  replace z5 := (kb _).trans z5
  replace z6 := (kb _).trans z6
  replace z7 := (kb _).trans z7
  replace z8 := (kb _).trans z8
  replace z9 := (kb _).trans z9
  simp only [Nat.reduceAdd] at z1 z2 z3 z4 z5 z6 z7 z8 z9
  clear x0 x1 x2 x3 x4 x5 x6 x7 x8 x9 k5 j5 ka kb H5 h5 hX4 hat4
  have l1 := cell_lt' f0
  have l2 := cell_lt' g0
  have l3 := cell_lt' y0
  simp only at l1 l2 l3
  go_upto_region 9 with fail
  refine Plan.begin Plan.Ext 29 rfl (by kernel_rfl) ?_
  refine Plan.left_q 0 (by rfl) (by kernel_rfl) ?_; go_big_quiet_step (fail); refine wpQuiet_nil ?_
  refine Plan.left_q 1 (by rfl) (by kernel_rfl) ?_; go_big_quiet_step (fail); refine wpQuiet_nil ?_
  refine Plan.left_q 2 (by rfl) (by kernel_rfl) ?_; go_big_quiet_step (fail); refine wpQuiet_nil ?_
  refine Plan.left_q 3 (by rfl) (by kernel_rfl) ?_; go_big_quiet_step (fail); refine wpQuiet_nil ?_
  refine Plan.left_q 4 (by rfl) (by kernel_rfl) ?_; go_big_quiet_step (fail); refine wpQuiet_nil ?_
  refine Plan.left_q 5 (by rfl) (by kernel_rfl) ?_; go_big_quiet_step (fail); refine wpQuiet_nil ?_
  refine Plan.left_q 6 (by rfl) (by kernel_rfl) ?_; go_big_quiet_step (fail); refine wpQuiet_nil ?_
  refine Plan.left_q 7 (by rfl) (by kernel_rfl) ?_; go_big_quiet_step (fail); refine wpQuiet_nil ?_
  refine Plan.left_one 8 (by kernel_rfl) (by rfl) (Plan.want rfl fun K hK => ?_)
  go_wp2_with (fail)
  refine (lone0_c _ _ _ _).mono ?_
  rintro e w10 ⟨rfl, h10⟩
  have H10 := ExtM.trans _ _ _ (ExtM.refl _).drew h10
  obtain ⟨hc10, hf10, -⟩ := Ext.rules H10
  have hs10_0 : n < w10.heap.size := by have := H10.size; (try simp at this); omega
  have hs10_1 : n+1 < w10.heap.size := by have := H10.size; (try simp at this); omega
  have hs10_2 : gb < w10.heap.size := by have := H10.size; (try simp at this); omega
  go_wp2_with (fail)
  refine hK _ _ h10 ?_
  clear hK K
  refine Plan.left_q 9 (by rfl) (by kernel_rfl) ?_; go_big_quiet_step (fail); refine wpQuiet_nil ?_
  refine Plan.left_q 10 (by rfl) (by kernel_rfl) ?_; go_big_quiet_step (fail); refine wpQuiet_nil ?_
  refine Plan.left_q 11 (by rfl) (by kernel_rfl) ?_; go_big_quiet_step (fail); refine wpQuiet_nil ?_
  refine Plan.left_q 12 (by rfl) (by kernel_rfl) ?_; go_big_quiet_step (fail); refine wpQuiet_nil ?_
  refine Plan.left_q 13 (by rfl) (by kernel_rfl) ?_; go_big_quiet_step (fail); refine wpQuiet_nil ?_
  refine Plan.left_q 14 (by rfl) (by kernel_rfl) ?_; go_big_quiet_step (fail); refine wpQuiet_nil ?_
  refine Plan.left_q 15 (by rfl) (by kernel_rfl) ?_; go_big_quiet_step (fail); refine wpQuiet_nil ?_
  refine Plan.left_q 16 (by rfl) (by kernel_rfl) ?_; go_big_quiet_step (fail); refine wpQuiet_nil ?_
  refine Plan.left_q 17 (by rfl) (by kernel_rfl) ?_; go_big_quiet_step (fail); refine wpQuiet_nil ?_
  refine Plan.left_one 18 (by kernel_rfl) (by rfl) (Plan.want rfl fun K hK => ?_)
  go_wp2_with (fail)
  refine (pair_c _ _ _ _ _ _ _).mono ?_
  rintro e w11 ⟨rfl, h11⟩
  clear hc10 hf10 hs10_0 hs10_1 hs10_2
  have H11 := ExtM.trans _ _ _ H10 h11
  obtain ⟨hc11, hf11, -⟩ := Ext.rules H11
  have hs11_0 : n < w11.heap.size := by have := H11.size; (try simp at this); omega
  have hs11_1 : n+1 < w11.heap.size := by have := H11.size; (try simp at this); omega
  have hs11_2 : gb < w11.heap.size := by have := H11.size; (try simp at this); omega
  go_wp2_with (fail)
  refine hK _ _ h11 ?_
  clear hK K
  refine Plan.left_q 19 (by rfl) (by kernel_rfl) ?_; go_big_quiet_step (fail); refine wpQuiet_nil ?_
  refine Plan.left_q 20 (by rfl) (by kernel_rfl) ?_; go_big_quiet_step (fail); refine wpQuiet_nil ?_
  refine Plan.left_q 21 (by rfl) (by kernel_rfl) ?_; go_big_quiet_step (fail); refine wpQuiet_nil ?_
  refine Plan.left_q 22 (by rfl) (by kernel_rfl) ?_; go_big_quiet_step (fail); refine wpQuiet_nil ?_
  refine Plan.left_q 23 (by rfl) (by kernel_rfl) ?_; go_big_quiet_step (fail); refine wpQuiet_nil ?_
  refine Plan.left_one 24 (by kernel_rfl) (by rfl) (Plan.want rfl fun K hK => ?_)
  go_wp2_with (fail)
  refine (view_c (hat5.ext H11) (by decide)).mono ?_
  rintro e w12 ⟨pv, cv, rfl, h12, -⟩
  clear hc11 hf11 hs11_0 hs11_1 hs11_2
  have H12 := ExtM.trans _ _ _ H11 h12
  obtain ⟨hc12, hf12, -⟩ := Ext.rules H12
  have hs12_0 : n < w12.heap.size := by have := H12.size; (try simp at this); omega
  have hs12_1 : n+1 < w12.heap.size := by have := H12.size; (try simp at this); omega
  have hs12_2 : gb < w12.heap.size := by have := H12.size; (try simp at this); omega
  go_wp2_with (fail)
  refine hK _ _ h12 ?_
  clear hK K
  refine Plan.left_q 25 (by rfl) (by kernel_rfl) ?_; go_big_quiet_step (fail); refine wpQuiet_nil ?_
  refine Plan.left_q 26 (by rfl) (by kernel_rfl) ?_; go_big_quiet_step (fail); refine wpQuiet_nil ?_
  refine Plan.left_q 27 (by rfl) (by kernel_rfl) ?_; go_big_quiet_step (fail); refine wpQuiet_nil ?_
  refine Plan.left_q 28 (by rfl) (by kernel_rfl) ?_; go_big_quiet_step (fail); refine wpQuiet_nil ?_
  refine Plan.left_done (by kernel_rfl) ?_
  go_wp2_with fail
  go_ret
  exact ⟨rfl, ExtM.trans _ _ _ hX5 H12⟩
end Go.Proofs.YtmcgnnmffeojpaaGreatDoor
