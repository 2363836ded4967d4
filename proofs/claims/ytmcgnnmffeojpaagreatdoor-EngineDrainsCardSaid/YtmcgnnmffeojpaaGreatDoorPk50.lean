/- EngineDrains: for every plan and every list of steps the law returns true, and the list reads as it did. No condition but the row's own (the library's variables as the program lays them; tied). -/
import Derived.Test.YtmcgnnmffeojpaaGreatDoorPk5
import Derived.Test.YtmcgnnmffeojpaaGreatDoorPk43
import Derived.Test.YtmcgnnmffeojpaaGreatDoorPk45
import Derived.Test.YtmcgnnmffeojpaaGreatDoorPk48
import Derived.Test.YtmcgnnmffeojpaaGreatDoorPk49
import Derived.Deep.DeepCutAuto
import Derived.Deep.CutBlock
import Derived.Shelf.Vars
/- EngineDrains: the walk. -/
namespace Go.Proofs.YtmcgnnmffeojpaaGreatDoor
open Go.RowKit Go.Plan

theorem elemAt_keep {M : Nat → Prop} {w w' : World} {b o : Nat} {x : Out} (h : ElemAt w b o x) (hx : ExtM M w w') (hM : ¬ M b) : ElemAt w' b o x := by
  have k := fun q => hx.cell (p := ⟨b, q, none⟩) h.lt hM
  exact ⟨(k _).trans h.e0, (k _).trans h.e1, (k _).trans h.e2, (k _).trans h.e3, (k _).trans h.e4, (k _).trans h.e5, (k _).trans h.e6, (k _).trans h.e7, (k _).trans h.e8⟩
set_option maxRecDepth 100000 in
set_option maxHeartbeats 8000000 in
theorem engineDrains_w (low high mode : Int) (a : Option Addr) (cap : Nat) (xs : List StE) (w : World) (i1 : I64 low) (i2 : I64 high) (i3 : I64 mode) (hlib : Lib4 w) (hin : StepsIn w a xs) (hok : ∀ x ∈ xs, x.ok ∧ I64 x.n) :
    Calls Tryz.prog 6 #[.int .i64 low, .int .i64 high, .int .i64 mode, .slice a xs.length cap] w fun e w' => e = .returned (.bool true) ∧ Ext w w' := by
  have hw0 : 0 < w.heap.size := cell_lt hlib.l
  by_cases h80 : 80 < xs.length
  · have d : decide (80 < (xs.length : Int)) = true := by simp; omega
    go_enter Tryz.func6, Tryz.ntmps6
    go_wp2_with fail
    go_ret
    exact ⟨rfl, ExtM.refl _⟩
  have d : decide (80 < (xs.length : Int)) = false := by simp; omega
  have hck := plan_check low high mode
  have hpo := plan_ok low high
  have hnw := fun u => tale_new low high mode u i1 i2 i3
  generalize planLo low = lo at *
  generalize planHi low high = hi at *
  generalize planMd mode = md at *
  unfold PlanOk at hpo
  go_enter Tryz.func6, Tryz.ntmps6
  go_upto_region 5 with (go_at_call 7; refine (met_c _ hlib.l).mono ?_; rintro e w1 ⟨rfl, hx1⟩)
  go_wp2_with (go_at_call 8; refine (hnw _).mono ?_; rintro e w2 ⟨Ta, Fa, rfl, hx2, hta, hna⟩)
  have hX0 : Ext w w2 := ExtM.trans _ _ _ hx1 hx2
  have hF0 : ∀ k, Fa k → w.heap.size ≤ k := fun k hk => Nat.le_trans hx1.size (hna k hk)
  clear hnw hx1 hx2 hna
  go_loopg [10] (xs.length + 1) (fun kx s10 wr => ∃ (i : Nat) (Fb : Nat → Prop), s10 = .int .i64 i ∧ i ≤ xs.length ∧ xs.length - i ≤ kx ∧ Ext w wr ∧ TAt wr Ta Fb lo hi md (tellX lo hi md (xs.take i) TSt.new) ∧ ∀ k, Fb k → w.heap.size ≤ k)
  case atStart => exact ⟨0, Fa, rfl, by omega, by omega, hX0, hta, hF0⟩
  case round =>
    clear hta hX0 hF0
    obtain ⟨i, Fb, rfl, hi', hgk, hX, hT, hF⟩ := hrel
    by_cases hil : i < xs.length
    · rcases hin with hin | ⟨b, off, rfl, hel⟩
      · rw [hin] at hil; simp at hil
      have hel := (hel i hil).of hX
      have hxo := hok _ (List.getElem_mem hil)
      have hto : TOk lo hi md (tellX lo hi md (xs.take i) TSt.new) (0 + (xs.take i).length) := tellX_ok _ (TOk.new lo hi md) (by rw [List.length_take]; omega)
      have hnl : 0 + (xs.take i).length < 100 := by rw [List.length_take]; omega
      have HSN : Hid (tellX lo hi md (xs.take (i + 1)) TSt.new = stepX lo hi md (tellX lo hi md (xs.take i) TSt.new) xs[i]) := Lib.hid (by rw [List.take_succ_eq_append_getElem hil, tellX_snoc])
      generalize xs[i] = x at *
      generalize 0 + (xs.take i).length = n at *
      generalize tellX lo hi md (xs.take i) TSt.new = s at *
      have hz0 : ¬ Fb 0 := fun e => by have := hF 0 e; omega
      have hdo := doesA_c hT hto (by omega) hck (hlib.ext hX) hz0 x hxo.1 hxo.2
      have hto2 := stepX_ok hto (by omega) x
      rw [← HSN.out] at hdo hto2
      generalize hs2 : tellX lo hi md (xs.take (i + 1)) TSt.new = s2 at *
      have HS2 := Lib.hid hs2
      clear hs2
      obtain ⟨wh, sd, sn, ky, tm, vl⟩ := x
      obtain ⟨q0, q1, q2, q3, q4, q5⟩ := hel
      simp only [StE.agg] at q0 q1 q2 q3 q4 q5 hdo
      have hlb := cell_lt' q0
      clear hT hto hxo
      go_wp2_with (go_at_call 9; refine hdo.mono ?_; rintro e w6 ⟨rfl, hu6⟩; refine Hid.out ?_)
      refine Lib.hid ?_
      obtain ⟨hxu, Fb2, hT2, hF2⟩ := hu6
      have hX6 : Ext w w6 := hX.fresh' hxu (fun k hk e => by have := hF k e; omega)
      have hF6 : ∀ k, Fb2 k → w.heap.size ≤ k := fun k hk => (hF2 k hk).elim (hF k) (fun e => Nat.le_trans hX.size e)
      obtain ⟨F, E, Bs, v0, v1, m, ht, rfl⟩ := hT2
      have hok2 := hto2
      have HT := Lib.hid (⟨ht, hX6, hF6⟩ : _ ∧ _ ∧ _)
      have c1 := ht.own.c1
      have c2 := ht.own.c2
      have c0 := ht.own.c0
      have lT := cell_lt' c0
      simp only at lT
      have hh0 := hto2.held0
      have hh1 := hto2.held1
      have hla := hto2.la
      have hlb2 := hto2.lb
      clear hdo q0 q1 q2 q3 q4 q5 hlb hxu hF2 hX hF6
      go_wp2_with fail
      go_loopg [11] 3 (fun kx s11 wr => ∃ j : Nat, s11 = .int .i64 j ∧ j ≤ 2 ∧ 2 - j ≤ kx ∧ Ext w6 wr)
      case atStart => exact ⟨0, rfl, by omega, by omega, ExtM.refl _⟩
      case round =>
        obtain ⟨j, rfl, hj, hgk2, hx⟩ := hrel
        have k5 := fun o => (hx.cell (p := ⟨Ta, o, none⟩) lT id)
        have d0 := (k5 0).trans c0
        have d1 := (k5 1).trans c1
        have d2 := (k5 2).trans c2
        have lT2 : Ta < wr.heap.size := cell_lt' d0
        have hat := ht.eng.ext hx
        clear k5
        have hj3 : j = 0 ∨ j = 1 ∨ j = 2 := by omega
        rcases hj3 with rfl | rfl | rfl
        · skip
          have hrw := erows_c 0 (by decide) hat (by show s2.st.a.length < 1000000; omega)
          have hmk := fun (wq : World) (hq : Ext wr wq) => emark_c 1 (hat.ext hq)
          have hhd := fun (wq : World) (hq : Ext wr wq) => eheld_c 0 (by decide) (hat.ext hq)
          have hof : s2.st.of 0 = s2.st.a := rfl
          rw [hof] at hrw hhd
          have hoi : ofI 1 s2.st.x s2.st.y = s2.st.y := rfl
          rw [hoi] at hmk
          clear hof hoi
          generalize s2.st.a = hs at *
          generalize s2.st.y = yy at *
          go_wp2_with (go_at_call 18; refine hrw.mono ?_; rintro e w7 ⟨vo, rfl, hm, hx7⟩; refine Hid.out ?_)
          refine Lib.hid ?_
          obtain ⟨p, c, rfl, -⟩ := own_slice hm
          have e0 := (hx7.cell (p := ⟨Ta, 0, none⟩) lT2 id).trans d0
          have e1 := (hx7.cell (p := ⟨Ta, 1, none⟩) lT2 id).trans d1
          have e2 := (hx7.cell (p := ⟨Ta, 2, none⟩) lT2 id).trans d2
          have lT7 : Ta < w7.heap.size := cell_lt' e0
          clear hrw hat d0 d1 d2 lT2
          go_wp2_with (go_at_call 19; refine (hmk w7 hx7).mono ?_; rintro e w8 ⟨rfl, rfl⟩; refine Hid.out ?_)
          refine Lib.hid ?_
          clear hmk
          go_wp2_with fail
          go_loopg [14] (hs.length + 1) (fun kx s14 wq => ∃ k : Nat, s14 = .int .i64 k ∧ k ≤ hs.length ∧ hs.length - k ≤ kx ∧ Ext w7 wq)
          case atStart => exact ⟨0, rfl, by omega, by omega, ExtM.refl _⟩
          case round =>
            obtain ⟨k, rfl, hk, hgk3, hxk⟩ := hrel
            have f0 := (hxk.cell (p := ⟨Ta, 0, none⟩) lT7 id).trans e0
            have f1 := (hxk.cell (p := ⟨Ta, 1, none⟩) lT7 id).trans e1
            have f2 := (hxk.cell (p := ⟨Ta, 2, none⟩) lT7 id).trans e2
            have lTk : Ta < wr.heap.size := cell_lt' f0
            by_cases hkl : k < hs.length
            · have hmk2 : MRow wr _ _ hs := own_ext hm hxk (fun _ _ h => h)
              obtain ⟨g, cap9, ev, hg, y0, y1, y2, y3⟩ := mrow_cells hmk2 k hs[k] (List.getElem?_eq_getElem hkl)
              simp only [Value.slice.injEq, true_and] at ev
              obtain ⟨rfl, rfl⟩ := ev
              obtain ⟨hsm, hm0, hlt⟩ := hh0 _ (List.getElem_mem hkl)
              have ht1 := hsm.2.1
              generalize hs[k] = g9 at *
              have hle : ¬ (g9.r.t + hi * 1 - lo * 0 ≤ yy) := by omega
              have hm1 : ¬ (g9.m < 0) := by omega
              have hxkd : Ext w7 wr.drew := hxk.drew
              go_upto_region 21 with fail
              refine Plan.begin Plan.Ext 13 rfl (by kernel_rfl) ?_
              refine Plan.left_q 0 (by rfl) (by kernel_rfl) ?_; go_big_quiet_step (fail); refine wpQuiet_nil ?_
              refine Plan.left_q 1 (by rfl) (by kernel_rfl) ?_; go_big_quiet_step (fail); refine wpQuiet_nil ?_
              refine Plan.left_q 2 (by rfl) (by kernel_rfl) ?_; go_big_quiet_step (fail); refine wpQuiet_nil ?_
              refine Plan.left_q 3 (by rfl) (by kernel_rfl) ?_; go_big_quiet_step (fail); refine wpQuiet_nil ?_
              refine Plan.left_q 4 (by rfl) (by kernel_rfl) ?_; go_big_quiet_step (fail); refine wpQuiet_nil ?_
              refine Plan.left_q 5 (by rfl) (by kernel_rfl) ?_; go_big_quiet_step (fail); refine wpQuiet_nil ?_
              refine Plan.left_q 6 (by rfl) (by kernel_rfl) ?_; go_big_quiet_step (fail); refine wpQuiet_nil ?_
              refine Plan.left_q 7 (by rfl) (by kernel_rfl) ?_; go_big_quiet_step (fail); refine wpQuiet_nil ?_
              refine Plan.left_q 8 (by rfl) (by kernel_rfl) ?_; go_big_quiet_step (fail); refine wpQuiet_nil ?_
              refine Plan.left_q 9 (by rfl) (by kernel_rfl) ?_; go_big_quiet_step (fail); refine wpQuiet_nil ?_
              refine Plan.left_q 10 (by rfl) (by kernel_rfl) ?_; go_big_quiet_step (fail); refine wpQuiet_nil ?_
              refine Plan.left_q 11 (by rfl) (by kernel_rfl) ?_; go_big_quiet_step (fail); refine wpQuiet_nil ?_
              refine Plan.left_q 12 (by rfl) (by kernel_rfl) ?_; go_big_quiet_step (fail); refine wpQuiet_nil ?_
              refine Plan.left_done (by kernel_rfl) ?_
              clear hmk2
              go_wp2_with fail
              go_roundg (hs.length - (k + 1))
              case measure => omega
              case rel => exact ⟨k + 1, by go_num, by omega, Nat.le_refl _, hxkd⟩
            · obtain rfl : k = hs.length := by omega
              have hz : decide (hs.length < hs.length) = false := by simp
              have hz2 : decide ((hs.length : Int) < hs.length) = false := by simp
              have hhk := hhd wr (ExtM.trans _ _ _ hx7 hxk)
              have HX := Lib.hid (ExtM.trans _ _ _ hx (ExtM.trans _ _ _ hx7 hxk))
              clear hhd hm hx7 e0 e1 e2 hx
              go_wp2_with (go_at_call 20; refine hhk.mono ?_; rintro e w9 ⟨rfl, rfl⟩; refine Hid.out ?_)
              refine Lib.hid ?_
              clear hhk hxk f0 f1 f2
              go_wp2_with fail
              go_roundg (2 - (0 + 1))
              case measure => omega
              case rel => exact ⟨0 + 1, by go_num, by omega, Nat.le_refl _, HX.out⟩
        · skip
          have hrw := erows_c 1 (by decide) hat (by show s2.st.b.length < 1000000; omega)
          have hmk := fun (wq : World) (hq : Ext wr wq) => emark_c 0 (hat.ext hq)
          have hhd := fun (wq : World) (hq : Ext wr wq) => eheld_c 1 (by decide) (hat.ext hq)
          have hof : s2.st.of 1 = s2.st.b := rfl
          rw [hof] at hrw hhd
          have hoi : ofI 0 s2.st.x s2.st.y = s2.st.x := rfl
          rw [hoi] at hmk
          clear hof hoi
          generalize s2.st.b = hs at *
          generalize s2.st.x = yy at *
          go_wp2_with (go_at_call 18; refine hrw.mono ?_; rintro e w7 ⟨vo, rfl, hm, hx7⟩; refine Hid.out ?_)
          refine Lib.hid ?_
          obtain ⟨p, c, rfl, -⟩ := own_slice hm
          have e0 := (hx7.cell (p := ⟨Ta, 0, none⟩) lT2 id).trans d0
          have e1 := (hx7.cell (p := ⟨Ta, 1, none⟩) lT2 id).trans d1
          have e2 := (hx7.cell (p := ⟨Ta, 2, none⟩) lT2 id).trans d2
          have lT7 : Ta < w7.heap.size := cell_lt' e0
          clear hrw hat d0 d1 d2 lT2
          go_wp2_with (go_at_call 19; refine (hmk w7 hx7).mono ?_; rintro e w8 ⟨rfl, rfl⟩; refine Hid.out ?_)
          refine Lib.hid ?_
          clear hmk
          go_wp2_with fail
          go_loopg [14] (hs.length + 1) (fun kx s14 wq => ∃ k : Nat, s14 = .int .i64 k ∧ k ≤ hs.length ∧ hs.length - k ≤ kx ∧ Ext w7 wq)
          case atStart => exact ⟨0, rfl, by omega, by omega, ExtM.refl _⟩
          case round =>
            obtain ⟨k, rfl, hk, hgk3, hxk⟩ := hrel
            have f0 := (hxk.cell (p := ⟨Ta, 0, none⟩) lT7 id).trans e0
            have f1 := (hxk.cell (p := ⟨Ta, 1, none⟩) lT7 id).trans e1
            have f2 := (hxk.cell (p := ⟨Ta, 2, none⟩) lT7 id).trans e2
            have lTk : Ta < wr.heap.size := cell_lt' f0
            by_cases hkl : k < hs.length
            · have hmk2 : MRow wr _ _ hs := own_ext hm hxk (fun _ _ h => h)
              obtain ⟨g, cap9, ev, hg, y0, y1, y2, y3⟩ := mrow_cells hmk2 k hs[k] (List.getElem?_eq_getElem hkl)
              simp only [Value.slice.injEq, true_and] at ev
              obtain ⟨rfl, rfl⟩ := ev
              obtain ⟨hsm, hm0, hlt⟩ := hh1 _ (List.getElem_mem hkl)
              have ht1 := hsm.2.1
              generalize hs[k] = g9 at *
              have hle : ¬ (g9.r.t + hi * 0 - lo * 1 ≤ yy) := by omega
              have hm1 : ¬ (g9.m < 0) := by omega
              have hxkd : Ext w7 wr.drew.drew := hxk.drew.drew
              go_upto_region 21 with fail
              refine Plan.begin Plan.Ext 13 rfl (by kernel_rfl) ?_
              refine Plan.left_q 0 (by rfl) (by kernel_rfl) ?_; go_big_quiet_step (fail); refine wpQuiet_nil ?_
              refine Plan.left_q 1 (by rfl) (by kernel_rfl) ?_; go_big_quiet_step (fail); refine wpQuiet_nil ?_
              refine Plan.left_q 2 (by rfl) (by kernel_rfl) ?_; go_big_quiet_step (fail); refine wpQuiet_nil ?_
              refine Plan.left_q 3 (by rfl) (by kernel_rfl) ?_; go_big_quiet_step (fail); refine wpQuiet_nil ?_
              refine Plan.left_q 4 (by rfl) (by kernel_rfl) ?_; go_big_quiet_step (fail); refine wpQuiet_nil ?_
              refine Plan.left_q 5 (by rfl) (by kernel_rfl) ?_; go_big_quiet_step (fail); refine wpQuiet_nil ?_
              refine Plan.left_q 6 (by rfl) (by kernel_rfl) ?_; go_big_quiet_step (fail); refine wpQuiet_nil ?_
              refine Plan.left_q 7 (by rfl) (by kernel_rfl) ?_; go_big_quiet_step (fail); refine wpQuiet_nil ?_
              refine Plan.left_q 8 (by rfl) (by kernel_rfl) ?_; go_big_quiet_step (fail); refine wpQuiet_nil ?_
              refine Plan.left_q 9 (by rfl) (by kernel_rfl) ?_; go_big_quiet_step (fail); refine wpQuiet_nil ?_
              refine Plan.left_q 10 (by rfl) (by kernel_rfl) ?_; go_big_quiet_step (fail); refine wpQuiet_nil ?_
              refine Plan.left_q 11 (by rfl) (by kernel_rfl) ?_; go_big_quiet_step (fail); refine wpQuiet_nil ?_
              refine Plan.left_q 12 (by rfl) (by kernel_rfl) ?_; go_big_quiet_step (fail); refine wpQuiet_nil ?_
              refine Plan.left_done (by kernel_rfl) ?_
              have hxd : Ext wr wr.drew := (ExtM.refl wr).drew
              have y0d := (hxd.cell (p := ⟨g, k * 4, none⟩) hg id).trans y0
              have y1d := (hxd.cell (p := ⟨g, k * 4 + 1, none⟩) hg id).trans y1
              have y3d := (hxd.cell (p := ⟨g, k * 4 + 3, none⟩) hg id).trans y3
              have f0d := (hxd.cell (p := ⟨Ta, 0, none⟩) lTk id).trans f0
              have f1d := (hxd.cell (p := ⟨Ta, 1, none⟩) lTk id).trans f1
              have hgd : g < wr.drew.heap.size := hg
              have lTd : Ta < wr.drew.heap.size := lTk
              generalize wr.drew = wd at *
              go_upto_region 23 with fail
              refine Plan.begin Plan.Ext 13 rfl (by kernel_rfl) ?_
              refine Plan.left_q 0 (by rfl) (by kernel_rfl) ?_; go_big_quiet_step (fail); refine wpQuiet_nil ?_
              refine Plan.left_q 1 (by rfl) (by kernel_rfl) ?_; go_big_quiet_step (fail); refine wpQuiet_nil ?_
              refine Plan.left_q 2 (by rfl) (by kernel_rfl) ?_; go_big_quiet_step (fail); refine wpQuiet_nil ?_
              refine Plan.left_q 3 (by rfl) (by kernel_rfl) ?_; go_big_quiet_step (fail); refine wpQuiet_nil ?_
              refine Plan.left_q 4 (by rfl) (by kernel_rfl) ?_; go_big_quiet_step (fail); refine wpQuiet_nil ?_
              refine Plan.left_q 5 (by rfl) (by kernel_rfl) ?_; go_big_quiet_step (fail); refine wpQuiet_nil ?_
              refine Plan.left_q 6 (by rfl) (by kernel_rfl) ?_; go_big_quiet_step (fail); refine wpQuiet_nil ?_
              refine Plan.left_q 7 (by rfl) (by kernel_rfl) ?_; go_big_quiet_step (fail); refine wpQuiet_nil ?_
              refine Plan.left_q 8 (by rfl) (by kernel_rfl) ?_; go_big_quiet_step (fail); refine wpQuiet_nil ?_
              refine Plan.left_q 9 (by rfl) (by kernel_rfl) ?_; go_big_quiet_step (fail); refine wpQuiet_nil ?_
              refine Plan.left_q 10 (by rfl) (by kernel_rfl) ?_; go_big_quiet_step (fail); refine wpQuiet_nil ?_
              refine Plan.left_q 11 (by rfl) (by kernel_rfl) ?_; go_big_quiet_step (fail); refine wpQuiet_nil ?_
              refine Plan.left_q 12 (by rfl) (by kernel_rfl) ?_; go_big_quiet_step (fail); refine wpQuiet_nil ?_
              refine Plan.left_done (by kernel_rfl) ?_
              clear hmk2
              go_wp2_with fail
              go_roundg (hs.length - (k + 1))
              case measure => omega
              case rel => exact ⟨k + 1, by go_num, by omega, Nat.le_refl _, hxkd⟩
            · obtain rfl : k = hs.length := by omega
              have hz : decide (hs.length < hs.length) = false := by simp
              have hz2 : decide ((hs.length : Int) < hs.length) = false := by simp
              have hhk := hhd wr (ExtM.trans _ _ _ hx7 hxk)
              have HX := Lib.hid (ExtM.trans _ _ _ hx (ExtM.trans _ _ _ hx7 hxk))
              clear hhd hm hx7 e0 e1 e2 hx
              go_wp2_with (go_at_call 20; refine hhk.mono ?_; rintro e w9 ⟨rfl, rfl⟩; refine Hid.out ?_)
              refine Lib.hid ?_
              clear hhk hxk f0 f1 f2
              go_wp2_with fail
              go_roundg (2 - (1 + 1))
              case measure => omega
              case rel => exact ⟨1 + 1, by go_num, by omega, Nat.le_refl _, HX.out⟩
        · have hx2 := hx
          have HX := Lib.hid hx
          clear hx hat d0 d1 d2 lT2 hx2
          go_wp2_with fail
          go_roundg (xs.length - (i + 1))
          case measure => omega
          case rel =>
            obtain ⟨r1, r2, r3⟩ := HT.out
            refine ⟨i + 1, _, by go_num, by omega, Nat.le_refl _, ExtM.trans _ _ _ r2 HX.out, ?_, r3⟩
            rw [HS2.out]
            exact ⟨F, E, Bs, v0, v1, m, r1.ext HX.out, rfl⟩
    · obtain rfl : i = xs.length := by omega
      have hz : decide (xs.length < xs.length) = false := by simp
      have hz2 : decide ((xs.length : Int) < xs.length) = false := by simp
      have hto : TOk lo hi md (tellX lo hi md (xs.take xs.length) TSt.new) (0 + (xs.take xs.length).length) := tellX_ok _ (TOk.new lo hi md) (by rw [List.length_take]; omega)
      have hnl : 0 + (xs.take xs.length).length < 100 := by rw [List.length_take]; omega
      generalize 0 + (xs.take xs.length).length = n at *
      generalize tellX lo hi md (xs.take xs.length) TSt.new = s at *
      obtain ⟨F, E, Bs, v0, v1, m, ht, rfl⟩ := hT
      have hVl := hto.lV2 (by omega)
      have hvo := hto.outs
      have hvl : (sortO s.V).length < 1000000 := by rw [sortO_length]; exact hVl
      go_upto_region 29 with fail
      have hb := GrpIs.new wr 69
      have hxa : Ext wr (wr.alloc (.cells #[.map none] 69)) := (ExtM.refl _).alloc _
      have hAl : wr.heap.size < (wr.alloc (.cells #[.map none] 69)).heap.size := by rw [World.size_alloc]; omega
      have hwA := hX.size
      have hfA : ∀ k, TFoot Ta F Bs v0 v1 k → k < wr.heap.size := ht.foot
      generalize wr.alloc (.cells #[.map none] 69) = w2 at *
      generalize hA : wr.heap.size = A at *
      have HA := Lib.hid hA
      clear hA
      have ht2 := ht.ext hxa
      have hX2 := ExtM.trans _ _ _ hX hxa
      have c0 := ht2.own.c0
      have lT := cell_lt' c0
      simp only at lT
      have hva := (view_c ht2.eng hVl).mono fun e w' h => h.out
      clear ht hX
      go_wp2_with (go_at_call 10; refine hva.mono ?_; rintro e w3 ⟨p, cv, rfl, hx3, ho3⟩; refine Hid.out ?_)
      refine Lib.hid ?_
      have ht3 := ht2.ext hx3
      have hg3 := hb.of hx3 (fun _ _ => id)
      have hX3 := ExtM.trans _ _ _ hX2 hx3
      have hN3 : A < w3.heap.size := Nat.lt_of_lt_of_le hAl hx3.size
      have HG3 := Lib.hid hg3
      clear hva c0 lT hb ht2 hx3 hX2
      generalize hlv : sortO s.V = lv at *
      have HLV := Lib.hid hlv
      clear hlv
      go_wp2_with fail
      go_loopg [18] (lv.length + 1) (fun kx s18 wq => ∃ (k : Nat) (D : Option Nat) (ents : List Ent) (acc : List Out), s18 = .int .i64 k ∧ k ≤ lv.length ∧ lv.length - k ≤ kx ∧ GrpIs wq A 0 D ents ∧ RepAll ents acc ∧ acc.Perm (lv.take k) ∧ (∀ q, grpM A D ents q → q = A ∨ w3.heap.size ≤ q) ∧ ExtM (fun q => q = A ∨ w3.heap.size ≤ q) w3 wq)
      case atStart => exact ⟨0, none, [], [], rfl, by omega, by omega, hg3, RepAll.nil, by simp, (fun q hq => by rcases hq with h | h | ⟨e, he, -⟩; exact .inl h; cases h; cases he), ExtM.refl _⟩
      case round =>
        clear hg3
        obtain ⟨k, D, ents, acc, rfl, hk, hgk4, hg, hrp, hac, hft, hxq⟩ := hrel
        by_cases hkl : k < lv.length
        · rcases ho3 with ho3 | ⟨b3, rfl, hel⟩
          · rw [ho3] at hkl; simp at hkl
          have hb3 : b3 < w3.heap.size := (hel k hkl).lt
          have hbA : ¬ b3 = A := fun e => by
            have h1 := (hel 0 (by omega)).e0
            rw [Nat.zero_mul, e, HG3.out.c0] at h1
            cases h1
          have el := elemAt_keep (hel k hkl) hxq (fun h => h.elim hbA (fun h => by omega))
          have hck9 := hvo _ (List.getElem_mem hkl)
          have HTK := Lib.hid (List.take_succ_eq_append_getElem hkl)
          have hal : acc.length < 1000000 := by rw [hac.length_eq, List.length_take]; omega
          generalize lv[k] = x at *
          have hadd := grpAdd A 0 D ents acc x wr hg hrp hck9 hal
          simp only [encC] at hadd
          have lb9 := el.lt
          obtain ⟨e0, e1, e2, e3, e4, e5, e6, e7, e8⟩ := id el
          have HG := Lib.hid (⟨hft, hxq, hac⟩ : _ ∧ _ ∧ _)
          clear el hg hrp hft hac
          go_wp2_with (go_at_call 21; refine hadd.mono ?_; rintro e w5 ⟨rfl, D', ents', g1, g2, htu⟩; refine Hid.out ?_)
          refine Lib.hid ?_
          obtain ⟨hft, hxq, hac⟩ := HG.out
          have hx5 : ExtM (fun q => q = A ∨ w3.heap.size ≤ q) w3 w5 := ExtM.trans _ _ _ hxq (ExtM.mono htu.ext (fun q _ hq => hft q hq))
          have hf5 : ∀ q, grpM A D' ents' q → q = A ∨ w3.heap.size ≤ q := fun q hq => by
            rcases htu.foot q hq with h | h
            · exact hft q h
            · have := hxq.size; exact .inr (by omega)
          have hac2 : (x :: acc).Perm (lv.take (k + 1)) := by
            rw [HTK.out]
            exact (List.Perm.cons x hac).trans (List.perm_append_singleton _ _).symm
          have HN := Lib.hid (⟨g1, g2, hac2, hf5, hx5⟩ : _ ∧ _ ∧ _ ∧ _ ∧ _)
          clear hadd hft hac htu hx5 hf5 hac2 g1 g2 hxq e0 e1 e2 e3 e4 e5 e6 e7 e8 lb9 HG
          go_wp2_with fail
          go_roundg (lv.length - (k + 1))
          case measure => omega
          case rel =>
            obtain ⟨r1, r2, r3, r4, r5⟩ := HN.out
            exact ⟨k + 1, D', ents', x :: acc, by go_num, by omega, Nat.le_refl _, r1, r2, r3, r4, r5⟩
        · obtain rfl : k = lv.length := by omega
          have hz3 : decide (lv.length < lv.length) = false := by simp
          have hz4 : decide ((lv.length : Int) < lv.length) = false := by simp
          rw [List.take_length] at hac
          have hpV : acc.Perm s.V := hac.trans (by rw [← HLV.out]; exact sortO_perm _)
          have hfk : ∀ q, TFoot Ta F Bs v0 v1 q → ¬ (q = A ∨ w3.heap.size ≤ q) := fun q hq h => by
            have h1 := hfA q hq
            have h2 := HA.out
            omega
          have ht4 := ht3.keep hxq hfk
          have hXw : Ext w wr := hX3.fresh' hxq (fun q hq h => by have := hX3.size; omega)
          have HT4 := Lib.hid ht4
          have c0 := ht4.own.c0
          have lT := cell_lt' c0
          simp only at lT
          obtain ⟨P, M, q0, q1, DD, DG, entsE, hI, -⟩ := ht4.eng
          have hal : acc.length < 1000000 := by rw [hac.length_eq]; exact hvl
          have hro : allG entsE = allG ents := (allG_eq (hrp.st_eq hI.rep hpV) hg.nodup hI.grp.nodup).symm
          have hng : (allG ents).length < 1000000 := by
            have h1 := hrp.few hg.nodup
            unfold allG
            rw [List.length_map, sortI_length, List.length_map]
            omega
          have hga : ∀ U, Ext wr U → Calls Tryz.prog 22 #[.pointer (some ⟨A, 0, none⟩)] U (GrpsV U (allG ents)) := fun U hU => grpAllL A 0 D ents acc U (hg.of hU (fun _ _ => id)) hrp hal
          have hgb : ∀ U, Ext wr U → Calls Tryz.prog 17 #[.pointer (some ⟨E, 0, none⟩)] U (GrpsV U (allG ents)) := fun U hU => by
            have := groups_c (hI.ext hU) hVl
            rwa [hro] at this
          clear hro hI ht4 hg hrp hac hpV hal hft hxq
          generalize allG ents = rows at *
          go_upto_region 35 with fail
          refine Plan.begin Plan.Ext 8 rfl (by kernel_rfl) ?_
          refine Plan.left_q 1 (by rfl) (by kernel_rfl) ?_; go_big_quiet_step (fail); refine wpQuiet_nil ?_
          refine Plan.left_q 2 (by rfl) (by kernel_rfl) ?_; go_big_quiet_step (fail); refine wpQuiet_nil ?_
          refine Plan.left_q 3 (by rfl) (by kernel_rfl) ?_; go_big_quiet_step (fail); refine wpQuiet_nil ?_
          refine Plan.left_q 4 (by rfl) (by kernel_rfl) ?_; go_big_quiet_step (fail); refine wpQuiet_nil ?_
          refine Plan.left_one 0 (by kernel_rfl) (by rfl) (Plan.plain rfl fun K hK => ?_)
          go_wp2_with (fail)
          refine (hga _ (ExtM.refl _).drew).mono ?_
          rintro e w9 ⟨p9, n9, rfl, h9, o9⟩
          have H9 := ExtM.trans _ _ _ (ExtM.refl _).drew h9
          obtain ⟨hc9, hf9, -⟩ := Ext.rules H9
          have hs9_0 : Ta < w9.heap.size := by have := H9.size; (try simp at this); omega
          go_wp2_with (fail)
          refine hK _ _ h9 ?_
          clear hK K
          refine Plan.left_one 5 (by kernel_rfl) (by rfl) (Plan.plain rfl fun K hK => ?_)
          go_wp2_with (fail)
          refine (hgb _ H9).mono ?_
          rintro e w10 ⟨p0, n0, rfl, h10, o0⟩
          clear hc9 hf9 hs9_0
          have H10 := ExtM.trans _ _ _ H9 h10
          obtain ⟨hc10, hf10, -⟩ := Ext.rules H10
          have hs10_0 : Ta < w10.heap.size := by have := H10.size; (try simp at this); omega
          go_wp2_with (fail)
          refine hK _ _ h10 ?_
          clear hK K
          refine Plan.left_q 6 (by rfl) (by kernel_rfl) ?_; go_big_quiet_step (fail); refine wpQuiet_nil ?_
          refine Plan.left_q 7 (by rfl) (by kernel_rfl) ?_; go_big_quiet_step (fail); refine wpQuiet_nil ?_
          refine Plan.left_done (by kernel_rfl) ?_
          have oG := o9.of h10
          have ht5 := HT4.out.ext H10
          have hXg : Ext w w10 := ExtM.trans _ _ _ hXw H10
          clear hc10 hf10 hs10_0 H9 h9 h10 H10 o9 c0 lT hga hgb hXw HT4
          obtain ⟨ng, hng2⟩ : ∃ ng, ng = rows.length := ⟨_, rfl⟩
          rw [← hng2] at hng
          rw [← hng2]
          have HNG := Lib.hid hng2.symm
          have HT5 := Lib.hid (⟨ht5, hXg⟩ : _ ∧ _)
          clear hng2 ht5 hXg
          go_wp2_with fail
          go_loopw [21] (fun i wr => ∃ (j : Nat), j ≤ ng ∧ i = .int .i64 j ∧ Ext w10 wr ∧ GrpsOf wr p9 rows ∧ GrpsOf wr p0 rows) (fun i _ => ng - (intOf i).toNat)
          case atStart => exact ⟨0, Nat.zero_le _, rfl, ExtM.refl _, oG, o0⟩
          case round =>
            clear oG o0
            obtain ⟨k, hk, rfl, hx, ho1, ho2⟩ := hrel
            by_cases hkl : k < ng
            · have hd : decide ((k : Int) < ng) = true := by simp; omega
              have hd' : decide (k < ng) = true := by simp; omega
              have hks : k < rows.length := by rw [HNG.out]; exact hkl
              have z1 := ho1.of ((ExtM.refl wr).drew : Ext wr wr.drew)
              have z2 := ho2.of ((ExtM.refl wr).drew : Ext wr wr.drew)
              rcases ho1 with ho1 | ⟨b1, rfl, ho1⟩
              · rw [ho1] at hks; simp at hks
              rcases ho2 with ho2 | ⟨b2, rfl, ho2⟩
              · rw [ho2] at hks; simp at hks
              have el1 := ho1 k hks
              have el2 := ho2 k hks
              have lb1 := el1.lt
              have lb2 := el2.lt
              generalize rows[k] = y at el1 el2
              have hne := fun u => neq_grp_self y u
              obtain ⟨e0, e1, e2, e3, e4, e5⟩ := id el1
              obtain ⟨g0, g1, g2, g3, g4, g5⟩ := id el2
              clear el1 el2 ho1 ho2 hks
              go_upto_region 41 with fail
              refine Plan.begin Plan.Ext 9 rfl (by kernel_rfl) ?_
              refine Plan.left_q 0 (by rfl) (by kernel_rfl) ?_; go_big_quiet_step (fail); refine wpQuiet_nil ?_
              refine Plan.left_q 1 (by rfl) (by kernel_rfl) ?_; go_big_quiet_step (fail); refine wpQuiet_nil ?_
              refine Plan.left_q 2 (by rfl) (by kernel_rfl) ?_; go_big_quiet_step (fail); refine wpQuiet_nil ?_
              refine Plan.left_q 3 (by rfl) (by kernel_rfl) ?_; go_big_quiet_step (fail); refine wpQuiet_nil ?_
              refine Plan.left_q 4 (by rfl) (by kernel_rfl) ?_; go_big_quiet_step (fail); refine wpQuiet_nil ?_
              refine Plan.left_q 5 (by rfl) (by kernel_rfl) ?_; go_big_quiet_step (fail); refine wpQuiet_nil ?_
              refine Plan.left_q 6 (by rfl) (by kernel_rfl) ?_; go_big_quiet_step (fail); refine wpQuiet_nil ?_
              refine Plan.left_q 7 (by rfl) (by kernel_rfl) ?_; go_big_quiet_step (fail); refine wpQuiet_nil ?_
              refine Plan.left_q 8 (by rfl) (by kernel_rfl) ?_; go_big_quiet_step (fail); refine wpQuiet_nil ?_
              refine Plan.left_done (by kernel_rfl) ?_
              clear e0 e1 e2 e3 e4 e5 g0 g1 g2 g3 g4 g5 hne
              go_wp2_with fail
              go_roundw
              case rel => exact ⟨k + 1, by omega, by go_num, hx.drew, z1, z2⟩
              case measure => simp [intOf]; omega
            · obtain rfl : k = ng := by omega
              have hd2 : decide ((k : Int) < k) = false := by simp
              have hd2' : decide (k < k) = false := by simp
              have hXk := ExtM.trans _ _ _ HT5.out.2 hx
              have ht6 := HT5.out.1.ext hx
              obtain ⟨hm0, hm1⟩ := end_zero (lo := lo) (hi := hi) hto (by omega)
              obtain ⟨hea, heb⟩ := end_held (lo := lo) (hi := hi) hto (by unfold PlanOk; exact hpo)
              have hla : s.st.a.length < 1000000 := by have := hto.la; omega
              have hlb : s.st.b.length < 1000000 := by have := hto.lb; omega
              have c0 := ht6.own.c0
              have lT := cell_lt' c0
              simp only at lT
              have hv0 := emove0_c ht6.eng (by unfold PlanOk; exact hpo) 1099511627776 hlb
              rw [hm0, show errV 0 = .nilIface from rfl, if_pos rfl] at hv0
              have HT6 := Lib.hid ht6
              clear ht6 hx ho1 ho2
              go_wp2_with (go_at_call 23; refine hv0.mono ?_; rintro e w11 ⟨rfl, hup⟩; refine Hid.out ?_)
              refine Lib.hid ?_
              obtain ⟨Bs1, ht7, hB1⟩ := HT6.out.fed hup
              have hX11 : Ext w w11 := hXk.fresh' hup.1 (fun q hq h => by have := hF q (.inr (.inr (.inl h))); omega)
              have hF1 : ∀ q, Bs1 q → w.heap.size ≤ q := fun q hq => (hB1 q hq).elim (fun h => hF q (.inr (.inr (.inl h)))) (fun h => Nat.le_trans hXk.size h)
              have hv1 := emove1_c ht7.eng (by unfold PlanOk; exact hpo) 1099511627776 (by exact hla)
              simp only at hv1
              rw [hm1, show errV 0 = .nilIface from rfl, if_pos rfl] at hv1
              have d0 := ht7.own.c0
              have lT7 := cell_lt' d0
              simp only at lT7
              have HT7 := Lib.hid ht7
              clear ht7 hup hv0 c0 lT
              go_wp2_with (go_at_call 23; refine hv1.mono ?_; rintro e w12 ⟨rfl, hup⟩; refine Hid.out ?_)
              refine Lib.hid ?_
              obtain ⟨Bs2, ht8, hB2⟩ := HT7.out.fed hup
              have hX12 : Ext w w12 := hX11.fresh' hup.1 (fun q hq h => by have := hF1 q h; omega)
              have hva := (view_c ht8.eng hVl).mono fun e w' h => h.out
              simp only at hva
              rw [HLV.out] at hva
              have f0 := ht8.own.c0
              have lT8 := cell_lt' f0
              simp only at lT8
              have HT8 := Lib.hid ht8
              clear ht8 hup hv1 d0 lT7
              go_wp2_with (go_at_call 10; refine hva.mono ?_; rintro e w13 ⟨pz, cz, rfl, hx13, -⟩; refine Hid.out ?_)
              refine Lib.hid ?_
              have ht9 := HT8.out.ext hx13
              have hh0 := eheld_c 0 (by decide) ht9.eng
              have hh1 := eheld_c 1 (by decide) ht9.eng
              have es0 : ((moveJ lo hi 1 1099511627776 (moveJ lo hi 0 1099511627776 s.st)).of 0).length = 0 := by
                show (endJ lo hi s.st).a.length = 0
                rw [hea]; rfl
              have es1 : ((moveJ lo hi 1 1099511627776 (moveJ lo hi 0 1099511627776 s.st)).of 1).length = 0 := by
                show (endJ lo hi s.st).b.length = 0
                rw [heb]; rfl
              simp only [es0] at hh0
              simp only [es1] at hh1
              have k0 := ht9.own.c0
              have lT9 := cell_lt' k0
              simp only at lT9
              have HXF := Lib.hid (ExtM.trans _ _ _ hX12 hx13)
              clear ht9 hva f0 lT8 hx13 hX12 hX11 es0 es1
              go_wp2_with (go_at_call 20; first | (refine hh0.mono ?_; rintro e w14 ⟨rfl, rfl⟩; refine Hid.out ?_))
              refine Lib.hid ?_
              clear hh0
              go_wp2_with (go_at_call 20; refine hh1.mono ?_; rintro e w14 ⟨rfl, rfl⟩; refine Hid.out ?_)
              refine Lib.hid ?_
              clear hh1
              go_wp2_with fail
              go_ret
              exact ⟨by simp, HXF.out⟩
end Go.Proofs.YtmcgnnmffeojpaaGreatDoor
/- The library's variables that loading wants: out of a row's condition and a world's shape. -/
namespace Go.Proofs.YtmcgnnmffeojpaaGreatDoor
open Go.ChangeShapes Go.WideShapes Go.ChangeAt Go.RowKit Go.Joins Go.Plan Go.Stop Go.Extern

theorem lst_rng : (LST1.filter fun x => x.1 == "strconv.ErrRange") = [("strconv.ErrRange", Rows.laid_strconv_ErrRange)] := by rfl
theorem lst_syn : (LST1.filter fun x => x.1 == "strconv.ErrSyntax") = [("strconv.ErrSyntax", Rows.laid_strconv_ErrSyntax)] := by rfl
theorem star_es : "*" ++ "errors.errorString" = "*errors.errorString" := by decide
theorem row_es (u : TypeId) (h : Tryz.prog.typeName? 3 u = some "*errors.errorString") : u = 250 :=
  typeName_ptr_named (nm := "errors.errorString") (by rw [star_es]; kernel_rfl) (by kernel_rfl) (by decide) u (by rw [star_es]; exact h)
theorem cellsES : Tryz.prog.cellsOf 252 = 1 := by kernel_rfl
theorem cellsStr : Tryz.prog.cellsOf 9 = 1 := by kernel_rfl
theorem errK_of {W : World} (h : laidMetH Tryz.prog LST W) : ErrP W := by
  have h1 := (laidMetH_iff.1 h).1
  rw [lst_plain] at h1
  have h2 := h1.filter (fun x => x.1 == "strconv.ErrRange")
  have h3 := h1.filter (fun x => x.1 == "strconv.ErrSyntax")
  rw [lst_rng] at h2
  rw [lst_syn] at h3
  obtain ⟨a0, s0, v0, -⟩ := laid_sentinel (g := 2) (ti := 45) (tp := 250) (te := 252) (ts := 9) h2 (by kernel_rfl) (by kernel_rfl) Tryz.underlying45 row_es Tryz.underlying250 Tryz.underlying252 rfl rfl Tryz.underlying9 cellsES cellsStr
  obtain ⟨a1, s1, v1, -⟩ := laid_sentinel (g := 1) (ti := 45) (tp := 250) (te := 252) (ts := 9) h3 (by kernel_rfl) (by kernel_rfl) Tryz.underlying45 row_es Tryz.underlying250 Tryz.underlying252 rfl rfl Tryz.underlying9 cellsES cellsStr
  have c0 := World.var?_cell (show Tryz.prog.globalNamed "strconv.ErrRange" = some 2 by kernel_rfl) v0 0
  have c1 := World.var?_cell (show Tryz.prog.globalNamed "strconv.ErrSyntax" = some 1 by kernel_rfl) v1 0
  exact ⟨⟨_, _, c1⟩, _, _, c0⟩
theorem maxK_of {W : World} (h : W.ShapedOpen Tryz.prog) : MaxP W :=
  cell_of_shapedOpen_int (P := Tryz.prog) (g := 4) (t := 3) (zero := #[.int .i64 0]) h (of_decide_eq_true (by kernel_rfl)) (by kernel_rfl) rfl (by kernel_rfl) (by kernel_rfl) Tryz.underlying3
theorem lib4_of {W : World} (h : laidMetH Tryz.prog LST W) (hs : W.ShapedOpen Tryz.prog) : Lib4 W := ⟨laidK_of h, maxK_of hs, errK_of h, powK_of h⟩
end Go.Proofs.YtmcgnnmffeojpaaGreatDoor
/- What slices of a tale's steps, and of numbers, look like, as they come in. -/
namespace Go.Proofs.YtmcgnnmffeojpaaGreatDoor
open Go.ChangeShapes Go.WideShapes Go.ChangeAt Go.RowKit Go.Joins Go.Plan Go.Deep

theorem cellsStepE : Tryz.prog.cellsOf 28 = 6 := by kernel_rfl
section
variable {H : Type} {enc : TypeId × Value → H} {w : World} {base : Nat} {spare : Nat → Bool} {held : Bool}
set_option maxRecDepth 100000 in
theorem stepE_cells {fuel : Nat} {cs : List Value} {x : DataW H × List MemPlace} (h : DataW.trod enc Tryz.prog w base spare held fuel 28 cs = some x) :
    ∃ d : StE, cs = d.cells ∧ d.ok ∧ I64 d.n := by
  obtain ⟨xs, n, _, -, hl, hlen, hf⟩ := DataW.trod_struct Tryz.underlying28 h
  rw [cellsStepE] at hl
  match cs, hl, xs, hlen with
  | [c0, c1, c2, c3, c4, c5], _, [y0, y1, y2, y3, y4, y5], _ =>
    obtain ⟨a, rfl, wa⟩ := int_cell (c := c0) (by simpa [cellsInt] using hf 0 _ rfl)
    obtain ⟨b, rfl, wb⟩ := int_cell (c := c1) (by simpa [cellsInt] using hf 1 _ rfl)
    obtain ⟨c, rfl, wc⟩ := int_cell (c := c2) (by simpa [cellsInt] using hf 2 _ rfl)
    obtain ⟨d, rfl, wd⟩ := int_cell (c := c3) (by simpa [cellsInt] using hf 3 _ rfl)
    obtain ⟨e, rfl, we⟩ := int_cell (c := c4) (by simpa [cellsInt] using hf 4 _ rfl)
    obtain ⟨f, rfl, wf⟩ := int_cell (c := c5) (by simpa [cellsInt] using hf 5 _ rfl)
    exact ⟨⟨a, b, c, d, e, f⟩, rfl, ⟨wb, wd, we, wf⟩, wc⟩
set_option maxRecDepth 100000 in
theorem steps_arg2 {r : Reach} {b0 : Nat} {v : Value} {d : DataW H} {p : List MemPlace} (hv : Value.okWide Tryz.prog w r b0 22 v) (h : DataW.Trod enc Tryz.prog w base spare held 22 v d p) :
    ∃ a cap xs, v = .slice a xs.length cap ∧ StepsIn w a xs ∧ ∀ x ∈ xs, x.ok ∧ I64 x.n := by
  obtain ⟨a, len, cap, rfl, -, -, h1⟩ := slice_arg 6 (by omega) Tryz.underlying22 cellsStepE hv h
  rcases h1 with rfl | ⟨b, off, rfl, hc⟩
  · exact ⟨a, cap, [], rfl, .inl rfl, fun x hx => nomatch hx⟩
  have hc' : ∀ k, k < len → ∃ x : StE, ElemE w b (off + k * 6) x ∧ x.ok ∧ I64 x.n := fun k hk => by
    obtain ⟨cs, n, y, hl, hcell, ht⟩ := hc k hk
    obtain ⟨x, rfl, hx⟩ := stepE_cells ht
    exact ⟨x, ⟨hcell 0 (by omega), hcell 1 (by omega), hcell 2 (by omega), hcell 3 (by omega), hcell 4 (by omega), hcell 5 (by omega)⟩, hx⟩
  have : Inhabited StE := ⟨⟨0, 0, 0, 0, 0, 0⟩⟩
  obtain ⟨f, hf⟩ := choose_lt hc'
  refine ⟨some ⟨b, off, none⟩, cap, (List.range len).map f, by simp, .inr ⟨b, off, rfl, fun i hi => ?_⟩, fun x hx => ?_⟩
  · have hi' : i < len := by simpa using hi
    have e : ((List.range len).map f)[i]'hi = f i := by simp
    rw [e]; exact (hf i hi').1
  · obtain ⟨i, hi, rfl⟩ := List.mem_map.1 hx
    exact (hf i (List.mem_range.1 hi)).2
set_option maxRecDepth 100000 in
theorem steps_arg {r : Reach} {b0 : Nat} {v : Value} {d : DataW H} {p : List MemPlace} (hv : Value.okWide Tryz.prog w r b0 22 v) (h : DataW.Trod enc Tryz.prog w base spare held 22 v d p) :
    ∃ a cap xs, v = .slice a xs.length cap ∧ StepsIn w a xs ∧ ∀ x ∈ xs, x.ok := by
  obtain ⟨a, cap, xs, h1, h2, h3⟩ := steps_arg2 hv h
  exact ⟨a, cap, xs, h1, h2, fun x hx => (h3 x hx).1⟩
set_option maxRecDepth 100000 in
theorem ints_arg {r : Reach} {b0 : Nat} {v : Value} {d : DataW H} {p : List MemPlace} (hv : Value.okWide Tryz.prog w r b0 52 v) (h : DataW.Trod enc Tryz.prog w base spare held 52 v d p) :
    ∃ a cap xs, v = .slice a xs.length cap ∧ OrdIn w a xs := by
  obtain ⟨a, len, cap, rfl, -, -, h1⟩ := slice_arg 1 (by omega) Tryz.underlying52 cellsInt hv h
  rcases h1 with rfl | ⟨b, off, rfl, hc⟩
  · exact ⟨a, cap, [], rfl, .inl rfl⟩
  have hc' : ∀ k, k < len → ∃ x : Int, w.cell? ⟨b, off + k, none⟩ = some (.int .i64 x) ∧ I64 x := fun k hk => by
    obtain ⟨cs, n, y, hl, hcell, ht⟩ := hc k hk
    match cs, hl with
    | [c0], _ =>
      obtain ⟨x, rfl, hx⟩ := int_cell (c := c0) ht
      refine ⟨x, ?_, hx⟩
      have := hcell 0 (by omega)
      simpa using this
  obtain ⟨f, hf⟩ := choose_lt hc'
  refine ⟨some ⟨b, off, none⟩, cap, (List.range len).map f, by simp, .inr ⟨b, off, rfl, fun i hi => ?_⟩⟩
  have hi' : i < len := by simpa using hi
  have e : ((List.range len).map f)[i]'hi = f i := by simp
  rw [e]; exact hf i hi'
end
end Go.Proofs.YtmcgnnmffeojpaaGreatDoor
namespace Go.Proofs.YtmcgnnmffeojpaaGreatDoor.engineDrains
open Go.ChangeShapes Go.WideShapes Go.ChangeAt Go.RowKit Go.Joins Go.Plan Go.Deep

set_option maxRecDepth 100000 in
theorem contract {H : Type} {enc : TypeId × Value → H} {W : World} {base : Nat} {held : Bool} {sp : Nat → Bool} {r : Reach} {b0 : Nat} {v0 v1 v2 v3 : Value} {d0 d1 d2 d3 : DataW H} {p0 p1 p2 p3 : List MemPlace} (hg : laidMetH Tryz.prog LST W) (hs : W.ShapedOpen Tryz.prog)
    (hv0 : Value.okWide Tryz.prog W r b0 3 v0) (h0 : DataW.Trod enc Tryz.prog W base sp held 3 v0 d0 p0)
    (hv1 : Value.okWide Tryz.prog W r b0 3 v1) (h1 : DataW.Trod enc Tryz.prog W base sp held 3 v1 d1 p1)
    (hv2 : Value.okWide Tryz.prog W r b0 3 v2) (h2 : DataW.Trod enc Tryz.prog W base sp held 3 v2 d2 p2)
    (hv3 : Value.okWide Tryz.prog W r b0 22 v3) (h3 : DataW.Trod enc Tryz.prog W base sp held 22 v3 d3 p3) :
    Calls Tryz.prog 6 #[v0, v1, v2, v3] W fun e w' => e = .returned (.bool true) ∧ Ext W w' := by
  obtain ⟨lo, rfl, i0⟩ := int_arg hv0 h0
  obtain ⟨hi, rfl, i1⟩ := int_arg hv1 h1
  obtain ⟨md, rfl, i2⟩ := int_arg hv2 h2
  obtain ⟨a, cap, xs, rfl, hin, hok⟩ := steps_arg2 hv3 h3
  exact engineDrains_w lo hi md a cap xs W i0 i1 i2 (lib4_of hg hs) hin hok

set_option maxRecDepth 100000 in
theorem lifted (os : Os) (started : os.Started) (H : Type) (enc : TypeId × Value → H) :
    ReturnsInHanded {} Tryz.checked os 6 .any (fun w args => (Rows.engineDrainsSpec.pre enc Tryz.prog Tryz.f6 [] false w args ∧ laidMetH Tryz.prog LST w) ∧ sizedMet enc Tryz.prog Tryz.f6 (OpenSpec.ofChange Rows.engineDrainsSpec) false w args)
      (Rows.engineDrainsSpec.post enc Tryz.prog Tryz.f6 false true false false) := by
  refine handed_and_shaped (C := Tryz.checked) (X := fun w _ => laidMetH Tryz.prog LST w) (fun _ _ _ hh h => h.of_heap hh) own started (by kernel_rfl) Tryz.func6
    (ChangeSpec.witness_shaped (enc := enc) (C := Tryz.checked) (os := os) (X := fun w _ => laidMetH Tryz.prog LST w) false (laidWorldK os) #[.int .i64 0, .int .i64 0, .int .i64 0, .slice none 0 0] 8 rfl
      (World.shaped_of_ZipB (by kernel_rfl) (by kernel_rfl)) (by kernel_rfl) (by kernel_rfl) (by kernel_rfl) (laidWorldK_met os _)) ?_
  intro W base args ds gs before hval0 hW _ _ hL hSh _
  have hval : ∀ (j : Nat) t v, Tryz.f6.params[j]? = some t → args[j]? = some v → Value.okWide Tryz.prog W .any base t v := hval0
  have hW' := hW
  obtain ⟨p, q, hA0, hV, rfl, hfz, hnd⟩ := hW
  have hA : DataW.TrodAll enc Tryz.prog W 0 (fun _ => true) true Tryz.f6.params.toList args.toList ds p := hA0
  have hg := laidK_of hL
  rw [Tryz.params6] at hA hval
  obtain ⟨v0, vs0, d0, ds0, p0, q0, hargs, rfl, rfl, h0, r0⟩ := trodAll_cons hA
  obtain ⟨v1, vs1, d1, ds1, p1, q1, rfl, rfl, rfl, h1, r1⟩ := trodAll_cons r0
  obtain ⟨v2, vs2, d2, ds2, p2, q2, rfl, rfl, rfl, h2, r2⟩ := trodAll_cons r1
  obtain ⟨v3, vs3, d3, ds3, p3, q3, rfl, rfl, rfl, h3, r3⟩ := trodAll_cons r2
  obtain ⟨rfl, rfl, rfl⟩ := trodAll_nil r3
  obtain rfl : args = #[v0, v1, v2, v3] := by cases args; simp_all
  obtain ⟨rfl, rfl⟩ := trodVars_none hV
  have hlt := hW'.lt
  simp only [List.append_nil] at hW' hlt
  refine (contract hL hSh (hval 0 3 v0 rfl rfl) h0 (hval 1 3 v1 rfl rfl) h1 (hval 2 3 v2 rfl rfl) h2 (hval 3 22 v3 rfl rfl) h3).mono fun e W' ⟨he, hx⟩ => ?_
  subst he
  refine ⟨_, rfl, post_law (pv := []) hW' rfl hx rfl ?_ rfl⟩
  have hk := trodAll_cons_mk (keep1 (by kernel_rfl) (of_decide_eq_true (by kernel_rfl)) h0 hx fun x h => hlt x (by simp [h])) (trodAll_cons_mk (keep1 (by kernel_rfl) (of_decide_eq_true (by kernel_rfl)) h1 hx fun x h => hlt x (by simp [h])) (trodAll_cons_mk (keep1 (by kernel_rfl) (of_decide_eq_true (by kernel_rfl)) h2 hx fun x h => hlt x (by simp [h])) (trodAll_cons_mk (keep1 (by kernel_rfl) (of_decide_eq_true (by kernel_rfl)) h3 hx fun x h => hlt x (by simp [h])) (trodAll_mk0))))
  simp only [List.append_nil] at hk ⊢
  exact hk

theorem said : Rows.EngineDrainsSaid :=
  OpenClaim.holds_of_wide 6 Tryz.f6 rfl rfl rfl rfl rfl rfl rfl ⟨rfl, rfl, rfl, rfl, rfl⟩ rfl rfl rfl rfl rfl (by kernel_rfl) Tryz.func6 (by kernel_rfl)
    (of_decide_eq_true (by kernel_rfl)) (by unfold Func.isWrapper; rw [if_neg (of_decide_eq_false (by kernel_rfl))]; exact ⟨rfl, rfl⟩)
    (fun os started H enc _ => lifted os started H enc)

theorem plainArgs (f : FuncId) (fn : Func) (hf : Tryz.pinned.checked.prog.funcNamed "estuary/estuarykeep.EngineDrains" = some f) (hfn : Tryz.pinned.checked.prog.funcs[f]? = some fn) :
    true = Tryz.pinned.checked.prog.looks [] ∧ ∀ (j : Nat) t, fn.params[j]? = some t → Tryz.pinned.checked.prog.wantsStandIn t = false := by
  obtain rfl : f = 6 := Option.some.inj ((show Tryz.prog.funcNamed "estuary/estuarykeep.EngineDrains" = some 6 by kernel_rfl).symm.trans hf) |>.symm
  obtain rfl : fn = Tryz.f6 := (Option.some.inj (Tryz.func6.symm.trans hfn)).symm
  refine ⟨by kernel_rfl, fun j t ht => ?_⟩
  rw [Tryz.params6] at ht
  have h2 : t = 3 ∨ t = 22 := by have h9 := Array.mem_of_getElem? ht; simp at h9; first | exact h9 | (rcases h9 with h | h | h <;> first | exact .inl h | exact .inr h)
  rcases h2 with rfl | rfl
  · exact (show Tryz.prog.wantsStandIn 3 = false by kernel_rfl)
  · exact (show Tryz.prog.wantsStandIn 22 = false by kernel_rfl)

/-- The card. -/
theorem holds : Rows.EngineDrainsCardSaid :=
  Claim7.holds_tied_plain_at .later [] _ _ _ _ said (fun _ h => by cases h) (by kernel_rfl) (fun _ h => by cases h) engineDrains_row_tie rfl ⟨rfl, rfl⟩ (by kernel_rfl) rfl plainArgs (by kernel_rfl)

#print axioms holds
end Go.Proofs.YtmcgnnmffeojpaaGreatDoor.engineDrains
