/- EngineOrder: the walk. -/
import Derived.Test.YtmcgnnmffeojpaaGreatDoorPk10
import Derived.Test.YtmcgnnmffeojpaaGreatDoorPk42
import Derived.Test.YtmcgnnmffeojpaaGreatDoorPk44
import Derived.Deep.DeepCutAuto
import Derived.Deep.CutBlock
namespace Go.Proofs.YtmcgnnmffeojpaaGreatDoor
open Go.RowKit Go.Plan

def OrdIn (w : World) (a : Option Addr) (xs : List Int) : Prop := xs = [] ∨ ∃ b off, a = some ⟨b, off, none⟩ ∧ ∀ i (h : i < xs.length), w.cell? ⟨b, off + i, none⟩ = some (.int .i64 xs[i]) ∧ I64 xs[i]
/-- What is done to a step that is left. -/
theorem LRow.zero {w : World} {b : Nat} {p : Option Addr} {cap : Nat} {l : List StE} (h : LRow w b (.slice p l.length cap) l) (i : Nat) (hi : i < l.length) : ∃ g, p = some ⟨g, 0, none⟩ ∧ b ≤ g ∧ g < w.heap.size ∧ LRow (w.setCell ⟨g, i * 6, none⟩ (.int .i64 0)) b (.slice p (l.set i l[i].feed).length cap) (l.set i l[i].feed) := by
  obtain ⟨g, cap', e, hb, hel, -⟩ := h.elem i hi
  simp only [Value.slice.injEq, true_and] at e
  obtain ⟨rfl, rfl⟩ := e
  refine ⟨g, rfl, hb, hel.lt, ?_⟩
  have := own_setCell (enc := StE.cells) ste_len h i 0 hi (by omega) (.int .i64 0) l[i].feed rfl
  rw [Nat.add_zero] at this
  have e2 : (l.set i l[i].feed).length = l.length := List.length_set
  unfold LRow
  rw [e2] at this ⊢
  exact this

/-- What an engine's groups are. -/
theorem groups_c {u : World} {E P M : Nat} {v0 v1 : Value} {D DG : Option Nat} {ents : List Ent} {lo hi md : Int} {st : JSt} {V W : List Out} {f0 f1 : Int} (h : EIs u E P M v0 v1 D DG ents lo hi md st V W f0 f1) (hl : W.length < 1000000) :
    Calls Tryz.prog 17 #[.pointer (some ⟨E, 0, none⟩)] u (GrpsV u (allG ents)) := by
  have c0 := h.lt
  have hv := grpAllL E 6 DG ents W u h.grp h.rep hl
  go_enter Tryz.func17, Tryz.ntmps17
  go_wp2_with (go_at_call 22; refine hv.mono ?_; rintro e w1 ⟨p, cap, rfl, hx, ho⟩)
  go_ret
  exact ⟨p, cap, rfl, hx, ho⟩
theorem groups_two {u : World} {E1 E2 : Nat} {B1 B2 : Nat → Prop} {lo hi md : Int} {s1 s2 : JSt} {V1 V2 : List Out} {a b c d : Int} (h1 : EAt u E1 B1 lo hi md s1 V1 V1 a b) (h2 : EAt u E2 B2 lo hi md s2 V2 V2 c d) (hp : V1.Perm V2) (hl : V1.length < 1000000) :
    ∃ rows, rows.length ≤ V1.length ∧ (∀ w, Ext u w → Calls Tryz.prog 17 #[.pointer (some ⟨E1, 0, none⟩)] w (GrpsV w rows)) ∧ ∀ w, Ext u w → Calls Tryz.prog 17 #[.pointer (some ⟨E2, 0, none⟩)] w (GrpsV w rows) := by
  obtain ⟨P, M, v0, v1, D, DG, e1, g1, -⟩ := h1
  obtain ⟨P', M', v0', v1', D', DG', e2, g2, -⟩ := h2
  refine ⟨allG e1, by unfold allG; rw [List.length_map, sortI_length, List.length_map]; exact g1.rep.few g1.grp.nodup, fun w hx => groups_c (g1.ext hx) hl, fun w hx => ?_⟩
  rw [allG_eq (g1.rep.st_eq g2.rep hp) g1.grp.nodup g2.grp.nodup]
  exact groups_c (g2.ext hx) (by rw [← hp.length_eq]; exact hl)
set_option maxRecDepth 100000 in
set_option maxHeartbeats 8000000 in
theorem engineOrder_w (low high mode : Int) (a : Option Addr) (cap : Nat) (xs : List StE) (oa : Option Addr) (ocap : Nat) (os : List Int) (w : World) (i1 : I64 low) (i2 : I64 high) (i3 : I64 mode) (hL : Laid w) (hin : StepsIn w a xs) (hok : ∀ x ∈ xs, x.ok) (hos : OrdIn w oa os) :
    Calls Tryz.prog 5 #[.int .i64 low, .int .i64 high, .int .i64 mode, .slice a xs.length cap, .slice oa os.length ocap] w fun e w' => e = .returned (.bool true) ∧ Ext w w' := by
  have hw0 : 0 < w.heap.size := cell_lt hL
  by_cases h60 : 60 < xs.length
  · have d : decide (60 < (xs.length : Int)) = true := by simp; omega
    go_enter Tryz.func5, Tryz.ntmps5
    go_wp2_with fail
    go_ret
    exact ⟨rfl, ExtM.refl _⟩
  have d : decide (60 < (xs.length : Int)) = false := by simp; omega
  by_cases h100 : 100 < os.length
  · have d2 : decide (100 < (os.length : Int)) = true := by simp; omega
    go_enter Tryz.func5, Tryz.ntmps5
    go_wp2_with fail
    go_ret
    exact ⟨rfl, ExtM.refl _⟩
  have d2 : decide (100 < (os.length : Int)) = false := by simp; omega
  have hp := plan_ok low high
  have hnw := fun u => tale_new low high mode u i1 i2 i3
  generalize planLo low = lo at *
  generalize planHi low high = hi at *
  generalize planMd mode = md at *
  go_enter Tryz.func5, Tryz.ntmps5
  go_upto_region 5 with (go_at_call 7; refine (met_c _ hL).mono ?_; rintro e w1 ⟨rfl, hx1⟩)
  go_wp2_with fail
  refine (hnw _).mono ?_
  rintro e w2 ⟨Ta, Fa, rfl, hx2, hta, hna⟩
  go_upto_region 8 with (go_at_call 8; refine (hnw _).mono ?_; rintro e w3 ⟨Tb, Fb, rfl, hx3, htb, hnb⟩)
  have hs1 := hx1.size
  have hs2 := hx2.size
  have hs3 := hx3.size
  have hT0 : Two2 w w3 Ta Tb lo hi md TSt.new TSt.new (.slice none 0 0) [] Fa Fb :=
    ⟨ExtM.trans _ _ _ hx1 (ExtM.trans _ _ _ hx2 hx3), hta.ext hx3, htb, fun k ha hb => by have := hta.lt k ha; have := hnb k hb; omega, fun k hk => by have := hna k hk; omega, fun k hk => by have := hnb k hk; omega, ⟨rfl, .inl ⟨rfl, rfl⟩⟩, fun k hk => nomatch hk⟩
  obtain ⟨v', w5, happ, hr5, hx5, hn5⟩ := run_appendSt (w3.alloc (.cells #[] 28)) w.heap.size (.slice (some ⟨w3.heap.size, 0, none⟩) 0 0) [] xs a cap 22 (lrow_empty (heap_alloc_new _ _) (by omega))
    (by
      rcases hin with h | ⟨b, off, h1, h2⟩
      · exact .inl h
      · refine .inr ⟨b, off, h1, fun j u hj => ?_⟩
        have := flat_cells (w := w3.alloc (.cells #[] 28)) (b := b) (off := off) xs 0 (fun i hi => by
          have := (h2 i hi).of (hT0.ext.alloc (.cells #[] 28))
          rwa [Nat.zero_add]) j u hj
        simpa using this) (by simp; omega) (by rw [World.size_alloc]; omega)
  rw [List.nil_append] at hr5
  obtain ⟨pv, cv, rfl, -⟩ := own_slice hr5
  have hT1 : Two2 w w5 Ta Tb lo hi md TSt.new TSt.new (.slice pv xs.length cv) xs Fa Fb := hT0.rowed (M := fun k => k = w3.heap.size) (ExtM.trans _ _ _ ((ExtM.refl w3).alloc _) (ExtM.mono hx5 (fun k _ e => (Option.some.inj e).symm))) (fun k e => .inr (by omega)) hr5 (fun k hk => by
    rcases hn5 with e | ⟨k', e, hk'⟩
    · rw [e] at hk; exact .inr (by have := Option.some.inj hk; simp at this; omega)
    · rw [e] at hk; have := Option.some.inj hk; rw [World.size_alloc] at hk'; exact .inr (by omega))
  clear hT0 hr5 hx5 hn5 hta htb hna hnb hx1 hx2 hx3 hs1 hs2 hs3 hnw hin
  go_wp2_with (at_builtin; refine wpList_append_run happ rfl rfl _ _ rfl rfl rfl ?_; clear happ)
  obtain ⟨zs, hzs⟩ : ∃ zs : List StE, zs = xs.map StE.feed := ⟨_, rfl⟩
  have hzl : zs.length = xs.length := by rw [hzs, List.length_map]
  have hzw : ∀ z ∈ zs, z.what = 0 ∧ z.ok := fun z hz => by
    rw [hzs] at hz
    obtain ⟨x, hx, rfl⟩ := List.mem_map.1 hz
    exact ⟨rfl, hok x hx⟩
  have hZ := Lib.hid hzs
  have hZL := Lib.hid hzl
  clear hzs hzl
  go_loopg [14] (xs.length + 1) (fun kx s14 wr => ∃ (i : Nat) (Fa' : Nat → Prop), s14 = .int .i64 i ∧ i ≤ xs.length ∧ xs.length - i ≤ kx ∧ Two2 w wr Ta Tb lo hi md (stepsT lo hi md (zs.take i) TSt.new) TSt.new (.slice pv xs.length cv) (zs.take i ++ xs.drop i) Fa' Fb)
  case atStart => exact ⟨0, Fa, rfl, by omega, by omega, hT1⟩
  case round =>
    clear hT1
    obtain ⟨i, Fa', rfl, hi', hgk, hT⟩ := hrel
    by_cases hil : i < xs.length
    · have hl1 : (zs.take i ++ xs.drop i).length = xs.length := by rw [List.length_append, List.length_take, List.length_drop, hZL.out]; omega
      have hil2 : i < (zs.take i ++ xs.drop i).length := by rw [hl1]; exact hil
      have hge : (zs.take i ++ xs.drop i)[i]'hil2 = xs[i] := by
        rw [List.getElem_append_right (by rw [List.length_take, hZL.out]; omega)]
        simp [List.length_take, hZL.out, Nat.min_eq_left hi']
      have hrow : LRow wr w.heap.size (.slice pv (zs.take i ++ xs.drop i).length cv) (zs.take i ++ xs.drop i) := by rw [hl1]; exact hT.row
      obtain ⟨g, rfl, hgb, hgl, hrz⟩ := hrow.zero i hil2
      obtain ⟨g', c', eg, -, hel, hfz⟩ := hrow.elem i hil2
      simp only [Value.slice.injEq, Option.some.injEq, Addr.mk.injEq, and_true, true_and] at eg
      obtain ⟨rfl, rfl⟩ := eg
      have hset : (zs.take i ++ xs.drop i).set i ((zs.take i ++ xs.drop i)[i]'hil2).feed = zs.take (i + 1) ++ xs.drop (i + 1) := by
        rw [hge, List.set_append_right _ _ (by rw [List.length_take, hZL.out]; omega), List.length_take, hZL.out, Nat.min_eq_left hi', Nat.sub_self, List.drop_eq_getElem_cons hil, List.set_cons_zero, List.take_succ_eq_append_getElem (by rw [hZL.out]; exact hil)]
        have : zs[i]'(by rw [hZL.out]; exact hil) = xs[i].feed := by
          have := hZ.out; subst this; simp
        rw [this, List.append_assoc]; rfl
      have hstp : stepsT lo hi md (zs.take (i + 1)) TSt.new = feedX lo hi md (stepsT lo hi md (zs.take i) TSt.new) xs[i].feed := by
        rw [List.take_succ_eq_append_getElem (by rw [hZL.out]; exact hil), steps_snoc]
        congr 1
        have := hZ.out; subst this; simp
      have hto : TOk lo hi md (stepsT lo hi md (zs.take i) TSt.new) (0 + (zs.take i).length) := steps_ok _ (TOk.new lo hi md) (by rw [List.length_take, hZL.out]; omega)
      have htn : 0 + (zs.take i).length < 200 := by rw [List.length_take, hZL.out]; omega
      rw [hset] at hrz
      have hl2 : (zs.take (i + 1) ++ xs.drop (i + 1)).length = xs.length := by rw [List.length_append, List.length_take, List.length_drop, hZL.out]; omega
      rw [hl2] at hrz
      have hT2 : Two2 w (wr.setCell ⟨g, i * 6, none⟩ (.int .i64 0)) Ta Tb lo hi md (stepsT lo hi md (zs.take i) TSt.new) TSt.new (.slice (some ⟨g, 0, none⟩) xs.length cv) (zs.take (i + 1) ++ xs.drop (i + 1)) Fa' Fb :=
        hT.rowed (M := fun k => k = g) (ExtM.setCell (M := fun k => k = g) (ExtM.refl wr) (p := ⟨g, i * 6, none⟩) (.inr rfl) _) (fun k e => .inl (by rw [e]; rfl)) hrz (fun k hk => .inl hk)
      obtain ⟨g2, c2, eg2, -, hel2, -⟩ := hT2.row.elem i (by rw [hl2]; exact hil)
      simp only [Value.slice.injEq, Option.some.injEq, Addr.mk.injEq, and_true] at eg2
      obtain ⟨rfl, -⟩ := eg2
      have hge2 : (zs.take (i + 1) ++ xs.drop (i + 1))[i]'(by rw [hl2]; exact hil) = xs[i].feed := by
        rw [List.getElem_append_left (by rw [List.length_take, hZL.out]; omega), List.getElem_take]
        have := hZ.out; subst this; simp
      rw [hge2] at hel2
      have hxo : xs[i].feed.ok := hok xs[i] (List.getElem_mem hil)
      rw [hge] at hel
      have e0 := hel.c0
      have z0 := hfz (i * 6)
      have HST := Lib.hid hstp
      clear hge hset hstp hl1 hl2 hge2 hrow hrz hT hel hfz hil2
      generalize xs[i] = x at *
      obtain ⟨wh, sd, sn, ky, tm, vl⟩ := x
      generalize hy : zs.take (i + 1) ++ xs.drop (i + 1) = ys at *
      have HY := Lib.hid hy
      clear hy
      generalize zs.take i ++ xs.drop i = ys0 at *
      generalize stepsT lo hi md (zs.take i) TSt.new = sa at *
      go_upto_region 13 with fail
      have hz0 : ¬ Fa' 0 := fun e => by have := hT2.na 0 e; omega
      have hdo := doesX_c hT2.a hto htn hp (hL.of hT2.ext) hz0 (StE.feed ⟨wh, sd, sn, ky, tm, vl⟩) hxo rfl
      generalize wr.setCell ⟨g, i * 6, none⟩ (.int .i64 0) = wS at *
      obtain ⟨q0, q1, q2, q3, q4, q5⟩ := hel2
      simp only [StE.feed, StE.agg] at q0 q1 q2 q3 q4 q5 hdo
      have HT2 := Lib.hid hT2
      clear hT2 e0 z0
      go_wp2_with (go_at_call 9; refine hdo.mono ?_; rintro e w6 ⟨rfl, hu6⟩; refine Hid.out ?_)
      refine Lib.hid ?_
      obtain ⟨Fa2, hT3⟩ := HT2.out.upA hu6
      have hT4 := Lib.hid hT3
      clear hu6 hT3 q0 q1 q2 q3 q4 q5 hdo
      go_wp2_with fail
      go_roundg (xs.length - (i + 1))
      case measure => omega
      case rel =>
        refine ⟨i + 1, Fa2, by go_num, by omega, Nat.le_refl _, ?_⟩
        rw [HST.out, HY.out]
        exact hT4.out
    · obtain rfl : i = xs.length := by omega
      have hz : decide (xs.length < xs.length) = false := by simp
      have hz2 : decide ((xs.length : Int) < xs.length) = false := by simp
      have hys : zs.take xs.length ++ xs.drop xs.length = zs := by rw [List.drop_length, List.append_nil, List.take_of_length_le (by rw [hZL.out]; exact Nat.le_refl _)]
      have hta : zs.take xs.length = zs := List.take_of_length_le (by rw [hZL.out]; exact Nat.le_refl _)
      rw [hys, hta] at hT
      have hsa := Lib.hid (rfl : stepsT lo hi md zs TSt.new = stepsT lo hi md zs TSt.new)
      have hT' : Two2 w wr Ta Tb lo hi md (stepsT lo hi md zs TSt.new) (stepsT lo hi md [] TSt.new) (.slice pv zs.length cv) zs Fa' Fb := by rw [hZL.out]; exact hT
      clear hT hys hta
      have hzn : zs.length ≤ 60 := by rw [hZL.out]; omega
      generalize hsE : stepsT lo hi md zs TSt.new = sa at *
      have HSE := Lib.hid hsE
      clear hsE hsa
      rw [← hZL.out]
      go_wp2_with fail
      go_loopg [13, 15] (zs.length + 1) (fun kx s13 s15 wr => ∃ (j cy : Nat) (py : Option Addr) (ys dn : List StE) (Fb' : Nat → Prop), s13 = .slice py ys.length cy ∧ s15 = .int .i64 j ∧ ys.length ≤ kx ∧ j + ys.length = zs.length ∧ dn.length + ys.length = zs.length ∧ (dn ++ ys).Perm zs ∧ Two2 w wr Ta Tb lo hi md sa (stepsT lo hi md dn TSt.new) (.slice py ys.length cy) ys Fa' Fb')
      case atStart => exact ⟨0, cv, pv, zs, [], Fb, rfl, rfl, by omega, by omega, by simp, List.Perm.refl _, hT'⟩
      case round =>
        clear hT'
        obtain ⟨j, cy, py, ys, dn, Fb', rfl, rfl, hgk2, hj, hdl, hperm, hT⟩ := hrel
        have HP := Lib.hid hperm
        have HJ := Lib.hid hj
        have HD := Lib.hid hdl
        have hyl : ys.length ≤ 60 := by omega
        have hjl : j ≤ 60 := by omega
        have hdn : dn.length ≤ 60 := by omega
        clear hperm hj hdl
        by_cases hy0 : 0 < ys.length
        · have hyd : decide (0 < ys.length) = true := by simp; omega
          have hyd2 : decide (0 < (ys.length : Int)) = true := by simp; omega
          go_upto_if 77 with fail
          go_cut [16] (fun s16 wx => ∃ k : Nat, s16 = .int .i64 k ∧ k < ys.length ∧ wx = wr)
          case first =>
            -- DONE{
            by_cases ho : 0 < os.length
            · have hod : decide (0 < os.length) = true := by simp; omega
              have hod2 : decide (0 < (os.length : Int)) = true := by simp; omega
              rcases hos with hos | ⟨b, off, rfl, hc⟩
              · subst hos; simp at ho
              have hm : j % os.length < os.length := Nat.mod_lt _ ho
              obtain ⟨hc1, hc2⟩ := hc _ hm
              have hc3 := (hT.ext.cell (p := ⟨b, off + j % os.length, none⟩) (cell_lt' hc1) (fun h => h)).trans hc1
              have hcl := cell_lt' hc3
              have hm0 : 0 ≤ (j : Int) % os.length := Int.emod_nonneg _ (by omega)
              have hm1 : (j : Int) % os.length < os.length := Int.emod_lt_of_pos _ (by omega)
              have hpk := fun u => pick_c os[j % os.length] ys.length u (by omega) (by omega) hc2
              have hkl := pickN_lt os[j % os.length] ys.length hy0
              generalize os[j % os.length] = ov at *
              generalize pickN ov ys.length = kk at *
              clear hc1
              go_wp2_with (go_at_call 13; refine (hpk _).mono ?_; rintro e w' ⟨rfl, rfl⟩)
              go_meet
              case rel => exact ⟨kk, rfl, hkl, rfl⟩
            · have hod : decide (0 < os.length) = false := decide_eq_false ho
              have hod2 : decide (0 < (os.length : Int)) = false := decide_eq_false (by omega)
              go_wp2_with fail
              go_meet
              case rel => exact ⟨ys.length - 1, by first | rfl | (congr 1; omega), by omega, rfl⟩
            -- }DONE
          case rest =>
            obtain ⟨k, rfl, hk, rfl⟩ := hcut
            clear hy0 hyd hyd2
            obtain ⟨g, c', eg, hgb, hel, -⟩ := hT.row.elem k hk
            simp only [Value.slice.injEq, true_and] at eg
            obtain ⟨rfl, rfl⟩ := eg
            have hyk := hzw ys[k] (HP.out.mem_iff.1 (List.mem_append_right _ (List.getElem_mem hk)))
            have hto : TOk lo hi md (stepsT lo hi md dn TSt.new) (0 + dn.length) := steps_ok _ (TOk.new lo hi md) (by omega)
            have hz0 : ¬ Fb' 0 := fun e => by have := hT.nb 0 e; omega
            have hdo := doesX_c hT.b hto (by omega) hp (hL.of hT.ext) hz0 ys[k] hyk.2 hyk.1
            have HSN := Lib.hid (steps_snoc (lo := lo) (hi := hi) (md := md) dn ys[k] TSt.new)
            have hyw := hyk.1
            obtain ⟨q0, q1, q2, q3, q4, q5⟩ := id hel
            generalize hyx : ys[k] = y at *
            have HYX := Lib.hid hyx
            clear hyx hel hto
            obtain ⟨wh, sd, sn, ky, tm, vl⟩ := y
            simp only at hyw
            subst hyw
            simp only [StE.agg] at q0 q1 q2 q3 q4 q5 hdo
            generalize stepsT lo hi md dn TSt.new = sb at *
            have HTT := Lib.hid hT
            clear hT hyk
            go_upto_region 23 with (go_at_call 9; refine hdo.mono ?_; rintro e w6 ⟨rfl, hu6⟩; refine Hid.out ?_)
            refine Lib.hid ?_
            go_upto_region 23 with fail
            obtain ⟨Fb2, hT3⟩ := HTT.out.upB hu6
            have hcy : ys.length ≤ cy := by
              obtain ⟨p, c, e, h⟩ := own_slice hT3.row
              simp only [Value.slice.injEq, true_and] at e
              rw [e.2]; exact h
            clear hu6 HTT q0 q1 q2 q3 q4 q5 hdo hz0 hgb
            have hsw : w.heap.size ≤ w6.heap.size := hT3.ext.size
            have hE : ∀ i (h : i < ys.length), ElemE w6 g (0 + i * 6) ys[i] := fun i h => by
              obtain ⟨g', c', e, -, hel, -⟩ := hT3.row.elem i h
              simp only [Value.slice.injEq, Option.some.injEq, Addr.mk.injEq, and_true, true_and] at e
              rw [e.1, Nat.zero_add]; exact hel
            have hgl : g < w6.heap.size := (own_lt hT3.row g rfl).2
            obtain ⟨v1, W1, happ1, hown1, hgr1, hloc1⟩ := run_appendSt (w6.drew.alloc (.cells #[] 28)) w.heap.size (.slice (some ⟨w6.heap.size, 0, none⟩) 0 0) [] (ys.take k) (some ⟨g, 0, none⟩) cy 22 (lrow_empty (heap_alloc_new _ _) hsw)
              (.inr ⟨g, 0, rfl, fun j u hj => by
                have := flat_cells (w := w6.drew.alloc (.cells #[] 28)) (b := g) (off := 0) (ys.take k) 0 (fun i hi => by
                  have hi2 : i < ys.length := by rw [List.length_take] at hi; omega
                  have := (hE i hi2).of ((ExtM.refl w6).drew.alloc (.cells #[] 28) : Ext w6 _)
                  simp only [Nat.zero_add] at this ⊢
                  rw [List.getElem_take]
                  exact this) j u hj
                simpa using this⟩) (by rw [List.length_take]; simp; omega) (by rw [World.size_alloc]; exact Nat.le_succ_of_le hsw)
            rw [List.length_take, Nat.min_eq_left (by omega)] at happ1
            have hb1 : ∀ k', v1.ownBlock = some k' → w6.heap.size ≤ k' := fun k' hk' => by
              rcases hloc1 with e | ⟨q, e, hq⟩
              · rw [e] at hk'; have := Option.some.inj hk'; simp at this; omega
              · rw [e] at hk'; have := Option.some.inj hk'; rw [World.size_alloc] at hq; have h9 : w6.drew.heap.size = w6.heap.size := rfl; omega
            have X1 : Plan.ExtF w6.heap.size (w6.drew.alloc (.cells #[] 28)) W1 := ExtM.mono hgr1 (fun k' _ e => by have := Option.some.inj e; simp at this; omega)
            have X01 : Ext w6 W1 := ExtF.ext (ExtF.trans _ _ _ (((ExtF.refl w6).drew).alloc _) X1) (Nat.le_refl _)
            obtain ⟨p1, c1, rfl, -⟩ := own_slice hown1
            have hE1 : ∀ i (h : i < ys.length), ElemE W1 g (0 + i * 6) ys[i] := fun i h => (hE i h).of X01
            have hsW : w.heap.size ≤ W1.heap.size := Nat.le_trans hsw X01.size
            have hacc : ([] ++ ys.take k).length + (ys.drop (k + 1)).length < 1000000 := by simp [List.length_take, List.length_drop]; omega
            have hT4 := Lib.hid hT3
            clear hloc1 hgr1 hE hT3
            by_cases hc : k + 1 = cy
            · have hnil : ys.drop (k + 1) = [] := List.drop_eq_nil_of_le (by omega)
              obtain ⟨v2, W2, happ2, hown2, hgr2, hloc2⟩ := run_appendSt W1 w.heap.size (.slice p1 ([] ++ ys.take k).length c1) ([] ++ ys.take k) (ys.drop (k + 1)) (some ⟨g, 0, none⟩) 0 22 hown1 (.inl hnil) hacc hsW
              rw [List.length_drop, show ys.length - (k + 1) = 0 by omega] at happ2
              subst hc
              obtain ⟨p2, c2, hv2, -⟩ := own_slice hown2
              subst hv2
              have hb2 : ∀ k', (Value.slice p2 (([] ++ ys.take k) ++ ys.drop (k + 1)).length c2).ownBlock = some k' → w6.heap.size ≤ k' := fun k' hk' => by
                rcases hloc2 with e | ⟨q, e, hq⟩
                · rw [e] at hk'; exact hb1 k' hk'
                · rw [e] at hk'; have := Option.some.inj hk'; have := X01.size; omega
              have X2 : Plan.ExtF w6.heap.size W1 W2 := ExtM.mono hgr2 (fun k' _ e => hb1 k' e)
              have hx6 : ExtM (fun k' => w6.heap.size ≤ k') w6 W2 := ExtM.trans _ _ _ (ExtM.mono X01 (fun _ _ h => h.elim)) X2
              have HF6 := Lib.hid (hT4.out.rowed hx6 (fun k' e => .inr e) hown2 (fun k' hk' => .inr (hb2 k' hk')))
              clear hgr2 hloc2 hown2 hx6 hb2 hb1 hT4 hown1 hE1
              simp only [List.nil_append] at happ1 happ2 HF6
              refine Plan.begin (Plan.ExtF w6.heap.size) 11 rfl (by kernel_rfl) ?_
              refine Plan.left_q 1 (by rfl) (by kernel_rfl) ?_; go_big_quiet_step (fail); refine wpQuiet_nil ?_
              refine Plan.left_q 2 (by rfl) (by kernel_rfl) ?_; go_big_quiet_step (fail); refine wpQuiet_nil ?_
              refine Plan.left_q 3 (by rfl) (by kernel_rfl) ?_; go_big_quiet_step (fail); refine wpQuiet_nil ?_
              refine Plan.left_q 5 (by rfl) (by kernel_rfl) ?_; go_big_quiet_step (fail); refine wpQuiet_nil ?_
              refine Plan.left_q 6 (by rfl) (by kernel_rfl) ?_; go_big_quiet_step (fail); refine wpQuiet_nil ?_
              refine Plan.left_q 7 (by rfl) (by kernel_rfl) ?_; go_big_quiet_step (fail); refine wpQuiet_nil ?_
              refine Plan.left_q 8 (by rfl) (by kernel_rfl) ?_; go_big_quiet_step (fail); refine wpQuiet_nil ?_
              refine Plan.left_one 0 (by kernel_rfl) (by rfl) (Plan.plain rfl fun K hK => ?_)
              go_wp2_with (fail)
              refine hK _ _ ((ExtF.refl _).alloc _) ?_
              clear hK K
              refine Plan.left_one 4 (by kernel_rfl) (by rfl) (Plan.plain rfl fun K hK => ?_)
              refine wp_append_run (happ1) rfl _ _ rfl rfl rfl ?_
              refine hK _ _ (X1) ?_
              simp only [Act.put, List.setIfInBounds_toArray, List.set_cons_succ, List.set_cons_zero]
              clear hK K
              refine Plan.left_one 9 (by kernel_rfl) (by rfl) (Plan.plain rfl fun K hK => ?_)
              refine wp_append_run (happ2) rfl _ _ rfl rfl rfl ?_
              refine hK _ _ (X2) ?_
              simp only [Act.put, List.setIfInBounds_toArray, List.set_cons_succ, List.set_cons_zero]
              clear hK K
              refine Plan.left_q 10 (by rfl) (by kernel_rfl) ?_; go_big_quiet_step (fail); refine wpQuiet_nil ?_
              refine Plan.left_done (by kernel_rfl) ?_
              go_wp2_with fail
              go_roundg (ys.length - 1)
              case measure => omega
              case rel =>
                have hly : (ys.take k ++ ys.drop (k + 1)).length = ys.length - 1 := by rw [List.length_append, List.length_take, List.length_drop]; omega
                refine ⟨j + 1, c2, p2, ys.take k ++ ys.drop (k + 1), dn ++ [ys[k]], Fb2, rfl, by go_num, by omega, by have := HJ.out; omega, by rw [List.length_append]; have := HD.out; simp only [List.length_cons, List.length_nil]; omega, ?_, ?_⟩
                · refine List.Perm.trans ?_ HP.out
                  rw [List.append_assoc]
                  refine List.Perm.append_left dn ?_
                  rw [List.singleton_append]
                  refine (List.perm_middle (l₁ := ys.take k) (l₂ := ys.drop (k + 1)) (a := ys[k])).symm.trans ?_
                  rw [← List.drop_eq_getElem_cons hk, List.take_append_drop]
                · rw [HYX.out, HSN.out]
                  exact HF6.out
            · obtain ⟨v2, W2, happ2, hown2, hgr2, hloc2⟩ := run_appendSt W1 w.heap.size (.slice p1 ([] ++ ys.take k).length c1) ([] ++ ys.take k) (ys.drop (k + 1)) (some ⟨g, (k + 1) * 6, none⟩) (cy - (k + 1)) 22 hown1
                (.inr ⟨g, (k + 1) * 6, rfl, fun j u hj => by
                  have := flat_cells (w := W1) (b := g) (off := 0) (ys.drop (k + 1)) (k + 1) (fun i hi => by
                    have hi2 : k + 1 + i < ys.length := by rw [List.length_drop] at hi; omega
                    rw [List.getElem_drop]
                    exact hE1 _ hi2) j u hj
                  simpa using this⟩) hacc hsW
              rw [List.length_drop] at happ2
              obtain ⟨p2, c2, hv2, -⟩ := own_slice hown2
              subst hv2
              have hb2 : ∀ k', (Value.slice p2 (([] ++ ys.take k) ++ ys.drop (k + 1)).length c2).ownBlock = some k' → w6.heap.size ≤ k' := fun k' hk' => by
                rcases hloc2 with e | ⟨q, e, hq⟩
                · rw [e] at hk'; exact hb1 k' hk'
                · rw [e] at hk'; have := Option.some.inj hk'; have := X01.size; omega
              have X2 : Plan.ExtF w6.heap.size W1 W2 := ExtM.mono hgr2 (fun k' _ e => hb1 k' e)
              have hx6 : ExtM (fun k' => w6.heap.size ≤ k') w6 W2 := ExtM.trans _ _ _ (ExtM.mono X01 (fun _ _ h => h.elim)) X2
              have HF6 := Lib.hid (hT4.out.rowed hx6 (fun k' e => .inr e) hown2 (fun k' hk' => .inr (hb2 k' hk')))
              clear hgr2 hloc2 hown2 hx6 hb2 hb1 hT4 hown1 hE1
              simp only [List.nil_append] at happ1 happ2 HF6
              refine Plan.begin (Plan.ExtF w6.heap.size) 11 rfl (by kernel_rfl) ?_
              refine Plan.left_q 1 (by rfl) (by kernel_rfl) ?_; go_big_quiet_step (fail); refine wpQuiet_nil ?_
              refine Plan.left_q 2 (by rfl) (by kernel_rfl) ?_; go_big_quiet_step (fail); refine wpQuiet_nil ?_
              refine Plan.left_q 3 (by rfl) (by kernel_rfl) ?_; go_big_quiet_step (fail); refine wpQuiet_nil ?_
              refine Plan.left_q 5 (by rfl) (by kernel_rfl) ?_; go_big_quiet_step (fail); refine wpQuiet_nil ?_
              refine Plan.left_q 6 (by rfl) (by kernel_rfl) ?_; go_big_quiet_step (fail); refine wpQuiet_nil ?_
              refine Plan.left_q 7 (by rfl) (by kernel_rfl) ?_; go_big_quiet_step (fail); refine wpQuiet_nil ?_
              refine Plan.left_q 8 (by rfl) (by kernel_rfl) ?_; go_big_quiet_step (fail); refine wpQuiet_nil ?_
              refine Plan.left_one 0 (by kernel_rfl) (by rfl) (Plan.plain rfl fun K hK => ?_)
              go_wp2_with (fail)
              refine hK _ _ ((ExtF.refl _).alloc _) ?_
              clear hK K
              refine Plan.left_one 4 (by kernel_rfl) (by rfl) (Plan.plain rfl fun K hK => ?_)
              refine wp_append_run (happ1) rfl _ _ rfl rfl rfl ?_
              refine hK _ _ (X1) ?_
              simp only [Act.put, List.setIfInBounds_toArray, List.set_cons_succ, List.set_cons_zero]
              clear hK K
              refine Plan.left_one 9 (by kernel_rfl) (by rfl) (Plan.plain rfl fun K hK => ?_)
              refine wp_append_run (happ2) rfl _ _ rfl rfl rfl ?_
              refine hK _ _ (X2) ?_
              simp only [Act.put, List.setIfInBounds_toArray, List.set_cons_succ, List.set_cons_zero]
              clear hK K
              refine Plan.left_q 10 (by rfl) (by kernel_rfl) ?_; go_big_quiet_step (fail); refine wpQuiet_nil ?_
              refine Plan.left_done (by kernel_rfl) ?_
              go_wp2_with fail
              go_roundg (ys.length - 1)
              case measure => omega
              case rel =>
                have hly : (ys.take k ++ ys.drop (k + 1)).length = ys.length - 1 := by rw [List.length_append, List.length_take, List.length_drop]; omega
                refine ⟨j + 1, c2, p2, ys.take k ++ ys.drop (k + 1), dn ++ [ys[k]], Fb2, rfl, by go_num, by omega, by have := HJ.out; omega, by rw [List.length_append]; have := HD.out; simp only [List.length_cons, List.length_nil]; omega, ?_, ?_⟩
                · refine List.Perm.trans ?_ HP.out
                  rw [List.append_assoc]
                  refine List.Perm.append_left dn ?_
                  rw [List.singleton_append]
                  refine (List.perm_middle (l₁ := ys.take k) (l₂ := ys.drop (k + 1)) (a := ys[k])).symm.trans ?_
                  rw [← List.drop_eq_getElem_cons hk, List.take_append_drop]
                · rw [HYX.out, HSN.out]
                  exact HF6.out
        · have hys : ys = [] := List.eq_nil_of_length_eq_zero (by omega)
          subst hys
          have hdp : dn.Perm zs := by have := HP.out; rwa [List.append_nil] at this
          have hpV : sa.V.Perm (stepsT lo hi md dn TSt.new).V := by
            rw [← HSE.out]
            exact steps_perm hdp.symm (by omega)
          have oka : TOk lo hi md sa (0 + zs.length) := by rw [← HSE.out]; exact steps_ok _ (TOk.new lo hi md) (by omega)
          have hlV : sa.V.length < 1000000 := by
            have h1 := oka.lV
            have h2 : (0 + zs.length) * (0 + zs.length) ≤ 60 * 60 := Nat.mul_le_mul (by omega) (by omega)
            omega
          have hzz : decide ((0 : Int) < ([] : List StE).length) = false := rfl
          have hX := hT.ext
          obtain ⟨FA, EA, BA, va0, va1, ma, hta, -⟩ := hT.a
          obtain ⟨FB, EB, BB, vb0, vb1, mb, htb, -⟩ := hT.b
          have hea := hta.eng
          have heb := htb.eng
          have ca := hta.own.c0
          have cb := htb.own.c0
          have lca := cell_lt' ca
          have lcb := cell_lt' cb
          simp only at lca lcb
          have hso : sortO (stepsT lo hi md dn TSt.new).V = sortO sa.V := (sortO_of_perm hpV).symm
          have hlV2 : (stepsT lo hi md dn TSt.new).V.length < 1000000 := by rw [← hpV.length_eq]; exact hlV
          have hva : ∀ u, Ext wr u → Calls Tryz.prog 10 #[.pointer (some ⟨EA, 0, none⟩)] u (fun e w' => ∃ p cap, e = .returned (.slice p (sortO sa.V).length cap) ∧ Ext u w' ∧ OutsOf w' p (sortO sa.V)) := fun u hu => (view_c (hea.ext hu) hlV).mono fun e w' h => h.out
          have hvb : ∀ u, Ext wr u → Calls Tryz.prog 10 #[.pointer (some ⟨EB, 0, none⟩)] u (fun e w' => ∃ p cap, e = .returned (.slice p (sortO sa.V).length cap) ∧ Ext u w' ∧ OutsOf w' p (sortO sa.V)) := fun u hu => by
            have := view_c (heb.ext hu) hlV2
            rw [hso] at this
            exact this.mono fun e w' h => h.out
          obtain ⟨rows, hrl, hga, hgb⟩ := groups_two hea heb hpV hlV
          clear hT hpV oka hlV2 hso HP HJ HD HSE hta htb hea heb hdp hzw hos
          go_upto_region 24 with fail
          refine Plan.begin Plan.Ext 12 rfl (by kernel_rfl) ?_
          refine Plan.left_q 0 (by rfl) (by kernel_rfl) ?_; go_big_quiet_step (fail); refine wpQuiet_nil ?_
          refine Plan.left_q 1 (by rfl) (by kernel_rfl) ?_; go_big_quiet_step (fail); refine wpQuiet_nil ?_
          refine Plan.left_q 2 (by rfl) (by kernel_rfl) ?_; go_big_quiet_step (fail); refine wpQuiet_nil ?_
          refine Plan.left_q 3 (by rfl) (by kernel_rfl) ?_; go_big_quiet_step (fail); refine wpQuiet_nil ?_
          refine Plan.left_q 5 (by rfl) (by kernel_rfl) ?_; go_big_quiet_step (fail); refine wpQuiet_nil ?_
          refine Plan.left_q 6 (by rfl) (by kernel_rfl) ?_; go_big_quiet_step (fail); refine wpQuiet_nil ?_
          refine Plan.left_q 7 (by rfl) (by kernel_rfl) ?_; go_big_quiet_step (fail); refine wpQuiet_nil ?_
          refine Plan.left_q 8 (by rfl) (by kernel_rfl) ?_; go_big_quiet_step (fail); refine wpQuiet_nil ?_
          refine Plan.left_one 4 (by kernel_rfl) (by rfl) (Plan.plain rfl fun K hK => ?_)
          go_wp2_with (fail)
          refine (hva _ (ExtM.refl _).drew).mono ?_
          rintro e w7 ⟨p7, n7, rfl, h7, o7⟩
          have H7 := ExtM.trans _ _ _ (ExtM.refl _).drew h7
          obtain ⟨hc7, hf7, -⟩ := Ext.rules H7
          have hs7_0 : Ta < w7.heap.size := by have := H7.size; (try simp at this); omega
          have hs7_1 : Tb < w7.heap.size := by have := H7.size; (try simp at this); omega
          go_wp2_with (fail)
          refine hK _ _ h7 ?_
          clear hK K
          refine Plan.left_one 9 (by kernel_rfl) (by rfl) (Plan.plain rfl fun K hK => ?_)
          go_wp2_with (fail)
          refine (hvb _ H7).mono ?_
          rintro e w8 ⟨p8, n8, rfl, h8, o8⟩
          clear hc7 hf7 hs7_0 hs7_1
          have H8 := ExtM.trans _ _ _ H7 h8
          obtain ⟨hc8, hf8, -⟩ := Ext.rules H8
          have hs8_0 : Ta < w8.heap.size := by have := H8.size; (try simp at this); omega
          have hs8_1 : Tb < w8.heap.size := by have := H8.size; (try simp at this); omega
          go_wp2_with (fail)
          refine hK _ _ h8 ?_
          clear hK K
          refine Plan.left_q 10 (by rfl) (by kernel_rfl) ?_; go_big_quiet_step (fail); refine wpQuiet_nil ?_
          refine Plan.left_q 11 (by rfl) (by kernel_rfl) ?_; go_big_quiet_step (fail); refine wpQuiet_nil ?_
          refine Plan.left_done (by kernel_rfl) ?_
          have hr8 := H8
          have o78 := o7.of h8
          have kA := (H8.cell (p := ⟨Ta, 0, none⟩) lca (fun h => h)).trans ca
          have kB := (H8.cell (p := ⟨Tb, 0, none⟩) lcb (fun h => h)).trans cb
          have lkA := cell_lt' kA
          have lkB := cell_lt' kB
          have hX8 := ExtM.trans _ _ _ hX hr8
          simp only at lkA lkB
          clear hc8 hf8 hs8_0 hs8_1 H7 h7 h8 o7 ca cb lca lcb hva hvb hX
          go_upto_region 25 with fail
          refine Plan.begin Plan.Ext 12 rfl (by kernel_rfl) ?_
          refine Plan.left_q 0 (by rfl) (by kernel_rfl) ?_; go_big_quiet_step (fail); refine wpQuiet_nil ?_
          refine Plan.left_q 1 (by rfl) (by kernel_rfl) ?_; go_big_quiet_step (fail); refine wpQuiet_nil ?_
          refine Plan.left_q 2 (by rfl) (by kernel_rfl) ?_; go_big_quiet_step (fail); refine wpQuiet_nil ?_
          refine Plan.left_q 3 (by rfl) (by kernel_rfl) ?_; go_big_quiet_step (fail); refine wpQuiet_nil ?_
          refine Plan.left_q 5 (by rfl) (by kernel_rfl) ?_; go_big_quiet_step (fail); refine wpQuiet_nil ?_
          refine Plan.left_q 6 (by rfl) (by kernel_rfl) ?_; go_big_quiet_step (fail); refine wpQuiet_nil ?_
          refine Plan.left_q 7 (by rfl) (by kernel_rfl) ?_; go_big_quiet_step (fail); refine wpQuiet_nil ?_
          refine Plan.left_q 8 (by rfl) (by kernel_rfl) ?_; go_big_quiet_step (fail); refine wpQuiet_nil ?_
          refine Plan.left_one 4 (by kernel_rfl) (by rfl) (Plan.plain rfl fun K hK => ?_)
          go_wp2_with (fail)
          refine (hga _ (ExtM.trans _ _ _ hr8 (ExtM.refl _).drew)).mono ?_
          rintro e w9 ⟨p9, n9, rfl, h9, o9⟩
          have H9 := ExtM.trans _ _ _ (ExtM.refl _).drew h9
          obtain ⟨hc9, hf9, -⟩ := Ext.rules H9
          have hs9_0 : Ta < w9.heap.size := by have := H9.size; (try simp at this); omega
          have hs9_1 : Tb < w9.heap.size := by have := H9.size; (try simp at this); omega
          go_wp2_with (fail)
          refine hK _ _ h9 ?_
          clear hK K
          refine Plan.left_one 9 (by kernel_rfl) (by rfl) (Plan.plain rfl fun K hK => ?_)
          go_wp2_with (fail)
          refine (hgb _ (ExtM.trans _ _ _ hr8 H9)).mono ?_
          rintro e w10 ⟨p0, n0, rfl, h10, o0⟩
          clear hc9 hf9 hs9_0 hs9_1
          have H10 := ExtM.trans _ _ _ H9 h10
          obtain ⟨hc10, hf10, -⟩ := Ext.rules H10
          have hs10_0 : Ta < w10.heap.size := by have := H10.size; (try simp at this); omega
          have hs10_1 : Tb < w10.heap.size := by have := H10.size; (try simp at this); omega
          go_wp2_with (fail)
          refine hK _ _ h10 ?_
          clear hK K
          refine Plan.left_q 10 (by rfl) (by kernel_rfl) ?_; go_big_quiet_step (fail); refine wpQuiet_nil ?_
          refine Plan.left_q 11 (by rfl) (by kernel_rfl) ?_; go_big_quiet_step (fail); refine wpQuiet_nil ?_
          refine Plan.left_done (by kernel_rfl) ?_
          have oV1 := o78.of H10
          have oV2 := o8.of H10
          have oG1 := o9.of h10
          have hX10 := ExtM.trans _ _ _ hX8 H10
          clear hc10 hf10 hs10_0 hs10_1 H9 h9 h10 H10 o78 o8 o9 kA kB lkA lkB hga hgb hX8 hr8
          obtain ⟨nv, hnv⟩ : ∃ nv, nv = (sortO sa.V).length := ⟨_, rfl⟩
          obtain ⟨ng, hng⟩ : ∃ ng, ng = rows.length := ⟨_, rfl⟩
          have hnvl : nv < 1000000 := by rw [hnv, sortO_length]; exact hlV
          have hngl : ng < 1000000 := by omega
          rw [← hnv, ← hng]
          have HN21 := Lib.hid hnv.symm
          have HN22 := Lib.hid hng.symm
          clear hnv hng
          generalize sortO sa.V = lv at *
          go_wp2_with fail
          go_loopw [21] (fun i wr => ∃ (k : Nat), k ≤ nv ∧ i = .int .i64 k ∧ Ext w wr ∧ OutsOf wr p7 lv ∧ OutsOf wr p8 lv ∧ GrpsOf wr p9 rows ∧ GrpsOf wr p0 rows) (fun i _ => nv - (intOf i).toNat)
          case atStart => exact ⟨0, Nat.zero_le _, rfl, hX10, oV1, oV2, oG1, o0⟩
          case round =>
            clear hX10 oV1 oV2 oG1 o0
            obtain ⟨k, hk, rfl, hx, ho1, ho2, og1, og2⟩ := hrel
            by_cases hkl : k < nv
            · have hd : decide ((k : Int) < nv) = true := by simp; omega
              have hd' : decide (k < nv) = true := by simp; omega
              have hks : k < lv.length := by rw [HN21.out]; exact hkl
              have q1 := ho1.of ((ExtM.refl wr).drew : Ext wr wr.drew)
              have q2 := ho2.of ((ExtM.refl wr).drew : Ext wr wr.drew)
              have q3 := og1.of ((ExtM.refl wr).drew : Ext wr wr.drew)
              have q4 := og2.of ((ExtM.refl wr).drew : Ext wr wr.drew)
              rcases ho1 with ho1 | ⟨b1, rfl, ho1⟩
              · rw [ho1] at hks; simp at hks
              rcases ho2 with ho2 | ⟨b2, rfl, ho2⟩
              · rw [ho2] at hks; simp at hks
              have el1 := ho1 k hks
              have el2 := ho2 k hks
              have lb1 := el1.lt
              have lb2 := el2.lt
              generalize lv[k] = y at el1 el2
              have hne := fun u => neq_out_self y u
              obtain ⟨e0, e1, e2, e3, e4, e5, e6, e7, e8⟩ := id el1
              obtain ⟨g0, g1, g2, g3, g4, g5, g6, g7, g8⟩ := id el2
              clear el1 el2 ho1 ho2 hks
              go_wp2_with fail
              refine Plan.begin Plan.Ext 9 rfl (by kernel_rfl) ?_
              refine Plan.left_q 0 (by rfl) (by kernel_rfl) ?_; go_big_quiet_step (fail); refine wpQuiet_nil ?_
              refine Plan.left_q 1 (by rfl) (by kernel_rfl) ?_; go_big_quiet_step (fail); refine wpQuiet_nil ?_
              refine Plan.left_q 2 (by rfl) (by kernel_rfl) ?_; go_big_quiet_step (fail); refine wpQuiet_nil ?_
              refine Plan.left_q 3 (by rfl) (by kernel_rfl) ?_; go_big_quiet_step (fail); refine wpQuiet_nil ?_
              refine Plan.left_q 4 (by rfl) (by kernel_rfl) ?_; go_big_quiet_step (fail); refine wpQuiet_nil ?_
              refine Plan.left_q 5 (by rfl) (by kernel_rfl) ?_; go_big_quiet_step (fail); refine wpQuiet_nil ?_
              refine Plan.left_q 6 (by rfl) (by kernel_rfl) ?_; go_big_quiet_step (fail); refine wpQuiet_nil ?_
              refine Plan.left_q 7 (by rfl) (by kernel_rfl) ?_; go_big_quiet_step (fail); refine wpQuiet_nil ?_
              refine Plan.left_q 8 (by rfl) (by kernel_rfl) ?_; go_big_quiet_step (fail); refine wpQuiet_nil ?_
              refine Plan.left_done (by kernel_rfl) ?_
              clear e0 e1 e2 e3 e4 e5 e6 e7 e8 g0 g1 g2 g3 g4 g5 g6 g7 g8 hne
              go_wp2_with fail
              go_roundw
              case rel => exact ⟨k + 1, by omega, by go_num, hx.drew, q1, q2, q3, q4⟩
              case measure => simp [intOf]; omega
            · obtain rfl : k = nv := by omega
              have hd : decide ((k : Int) < k) = false := by simp
              have hd' : decide (k < k) = false := by simp
              clear ho1 ho2
              go_wp2_with fail
              go_loopw [22] (fun i wr => ∃ (j : Nat), j ≤ ng ∧ i = .int .i64 j ∧ Ext w wr ∧ GrpsOf wr p9 rows ∧ GrpsOf wr p0 rows) (fun i _ => ng - (intOf i).toNat)
              case atStart => exact ⟨0, Nat.zero_le _, rfl, hx, og1, og2⟩
              case round =>
                clear hx og1 og2
                obtain ⟨k, hk, rfl, hx, ho1, ho2⟩ := hrel
                by_cases hkl : k < ng
                · have hd : decide ((k : Int) < ng) = true := by simp; omega
                  have hd' : decide (k < ng) = true := by simp; omega
                  have hks : k < rows.length := by rw [HN22.out]; exact hkl
                  have q1 := ho1.of ((ExtM.refl wr).drew : Ext wr wr.drew)
                  have q2 := ho2.of ((ExtM.refl wr).drew : Ext wr wr.drew)
                  rcases ho1 with ho1 | ⟨b1, rfl, ho1⟩
                  · rw [ho1] at hks; simp at hks
                  rcases ho2 with ho2 | ⟨b2, rfl, ho2⟩
                  · rw [ho2] at hks; simp at hks
                  have el1 := ho1 k hks
                  have el2 := ho2 k hks
                  have lb1 := el1.lt
                  have lb2 := el2.lt
                  generalize rows[k] = y at el1 el2
                  have hne := fun u => neq_grp_self y u
                  obtain ⟨e0, e1, e2, e3, e4, e5⟩ := id el1
                  obtain ⟨g0, g1, g2, g3, g4, g5⟩ := id el2
                  clear el1 el2 ho1 ho2 hks
                  go_wp2_with fail
                  refine Plan.begin Plan.Ext 9 rfl (by kernel_rfl) ?_
                  refine Plan.left_q 0 (by rfl) (by kernel_rfl) ?_; go_big_quiet_step (fail); refine wpQuiet_nil ?_
                  refine Plan.left_q 1 (by rfl) (by kernel_rfl) ?_; go_big_quiet_step (fail); refine wpQuiet_nil ?_
                  refine Plan.left_q 2 (by rfl) (by kernel_rfl) ?_; go_big_quiet_step (fail); refine wpQuiet_nil ?_
                  refine Plan.left_q 3 (by rfl) (by kernel_rfl) ?_; go_big_quiet_step (fail); refine wpQuiet_nil ?_
                  refine Plan.left_q 4 (by rfl) (by kernel_rfl) ?_; go_big_quiet_step (fail); refine wpQuiet_nil ?_
                  refine Plan.left_q 5 (by rfl) (by kernel_rfl) ?_; go_big_quiet_step (fail); refine wpQuiet_nil ?_
                  refine Plan.left_q 6 (by rfl) (by kernel_rfl) ?_; go_big_quiet_step (fail); refine wpQuiet_nil ?_
                  refine Plan.left_q 7 (by rfl) (by kernel_rfl) ?_; go_big_quiet_step (fail); refine wpQuiet_nil ?_
                  refine Plan.left_q 8 (by rfl) (by kernel_rfl) ?_; go_big_quiet_step (fail); refine wpQuiet_nil ?_
                  refine Plan.left_done (by kernel_rfl) ?_
                  clear e0 e1 e2 e3 e4 e5 g0 g1 g2 g3 g4 g5 hne
                  go_wp2_with fail
                  go_roundw
                  case rel => exact ⟨k + 1, by omega, by go_num, hx.drew, q1, q2⟩
                  case measure => simp [intOf]; omega
                · obtain rfl : k = ng := by omega
                  have hd2 : decide ((k : Int) < k) = false := by simp
                  have hd2' : decide (k < k) = false := by simp
                  go_wp2_with fail
                  go_ret
                  exact ⟨rfl, hx⟩
end Go.Proofs.YtmcgnnmffeojpaaGreatDoor
