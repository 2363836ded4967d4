/- The reference's Feed. -/
import Derived.Test.YtggjceolhbdalaaGreatDoorRFeedL
import Derived.Deep.DeepCutAuto
import Derived.Deep.CutBlock
namespace Go.Proofs.YtggjceolhbdalaaGreatDoor
open Go.RowKit Go.Plan

set_option maxRecDepth 100000 in
set_option maxHeartbeats 8000000 in
theorem rfeed0_c (u : World) (J : Nat) (r0 r1 : Value) (lo hi md : Int) (st : RSt) (rk rt rv : Int) (h : RIs u J r0 r1 lo hi md st) (hp : PlanOk lo hi) (hl0 : st.a.length ≤ 300) (hl1 : st.b.length ≤ 300) (hcm : 0 ≤ st.came ∧ st.came < 1000000) :
    Calls Tryz.prog 9 #[.pointer (some ⟨J, 0, none⟩), .int .i64 0, .agg #[.int .i64 rk, .int .i64 rt, .int .i64 rv]] u (RFeedPost u J r0 r1 lo hi md 0 ⟨rk, rt, rv⟩ st) := by
  have hxb : Ext u (u.alloc (.cells #[.int .i64 rk, .int .i64 rt, .int .i64 rv] 37)) := (ExtM.refl u).alloc _
  have lJ := h.lt
  have hgd := fun w => rgood_c rk rt rv w
  obtain ⟨q0, a0, rfl⟩ := h.j0.row.slice
  obtain ⟨q1, a1, rfl⟩ := h.j1.row.slice
  cases hg : goodB rk rt rv with
  | false =>
    rw [hg] at hgd
    go_enter Tryz.func9, Tryz.ntmps9
    go_wp2_with (first
      | (go_at_call 24; refine (rin_T _ _ _ _ (by decide)).mono ?_; rintro e w1 ⟨rfl, rfl⟩)
      | (go_at_call 26; refine (hgd _).mono ?_; rintro e w1 ⟨rfl, hx1⟩))
    go_ret2
    exact rfeed_err h (ExtM.trans _ _ _ hxb hx1) 1 (by unfold feedE; rw [if_pos hg]) (by decide) (by decide)
  | true =>
    rw [hg] at hgd
    have hb1 : (u.alloc (.cells #[.int .i64 rk, .int .i64 rt, .int .i64 rv] 37)).cell? ⟨u.heap.size, 1, none⟩ = some (.int .i64 rt) := by go_simp
    have hb0 : (u.alloc (.cells #[.int .i64 rk, .int .i64 rt, .int .i64 rv] 37)).cell? ⟨u.heap.size, 0, none⟩ = some (.int .i64 rk) := by go_simp
    have hb2 : (u.alloc (.cells #[.int .i64 rk, .int .i64 rt, .int .i64 rv] 37)).cell? ⟨u.heap.size, 2, none⟩ = some (.int .i64 rv) := by go_simp
    have lB : u.heap.size < (u.alloc (.cells #[.int .i64 rk, .int .i64 rt, .int .i64 rv] 37)).heap.size := by simp
    go_enter Tryz.func9, Tryz.ntmps9
    go_upto_region 3 with (first
      | (go_at_call 24; refine (rin_T _ _ _ _ (by decide)).mono ?_; rintro e w1 ⟨rfl, rfl⟩)
      | (go_at_call 26; refine (hgd _).mono ?_; rintro e w1 ⟨rfl, hx1⟩))
    have hX1 := ExtM.trans _ _ _ hxb hx1
    have h1 := h.ext hX1
    have k := fun q => hx1.cell (p := ⟨u.heap.size, q, none⟩) lB (fun h => h)
    have e0 := (k _).trans hb0
    have e1 := (k _).trans hb1
    have e2 := (k _).trans hb2
    have lB1 : u.heap.size < w1.heap.size := Nat.lt_of_lt_of_le lB hx1.size
    have lJ1 := h1.lt
    have c0 := h1.c0
    have c1 := h1.c1
    have c5 := h1.c5
    have c6 := h1.c6
    have c7 := h1.c7
    have f7 := h1.fz 7
    clear k hb0 hb1 hb2 lB hxb hx1
    by_cases hlate : rt ≤ st.x
    · have hE : feedE lo hi 0 ⟨rk, rt, rv⟩ st.x st.y (st.of 0).length = 10 := by rw [feedE_0 hg, if_pos hlate]
      have d : decide (rt ≤ st.x) = true := by simp [hlate]
      clear hlate
      go_quiet (fail)
      go_wp2_with fail
      go_ret2
      exact rfeed_late h (hX1.drewN _) hE
    · have ht := good_time hg
      have d : decide (rt ≤ st.x) = false := by simp; omega
      have HLA := Lib.hid hlate
      clear hlate
      go_quiet (fail)
      go_upto_region 8 with (
        go_at_call 27
        refine (may_c J lo hi rt 0 _ (by omega) hp ht (by go_simp) (by go_simp)).mono ?_
        rintro e w3 ⟨rfl, hx3⟩)
      have hX3 : Ext u w3 := ExtM.trans _ _ _ (hX1.drewN _) hx3
      have h3 := h.ext hX3
      have k := fun q => (((ExtM.refl w1).drewN nq).trans' hx3).cell (p := ⟨u.heap.size, q, none⟩) lB1 (fun h => h)
      have b0 := (k _).trans e0
      have b1 := (k _).trans e1
      have b2 := (k _).trans e2
      have lB3 : u.heap.size < w3.heap.size := Nat.lt_of_lt_of_le lB1 ((((ExtM.refl w1).drewN nq).trans' hx3).size)
      have lJ3 := h3.lt
      have C5 := h3.c6
      have crow := h3.j0.c3
      simp only [Nat.reduceAdd] at crow
      clear k e0 e1 e2 lB1 lJ1 hX1 hx3 h1 c0 c1 c5 c6 c7 f7
      generalize hT : tilI lo hi 0 rt = T at *
      generalize hF : frI lo hi 0 rt = F at *
      have HT := Lib.hid hT
      have HF := Lib.hid hF
      have HG := Lib.hid hg
      clear hT hF hg
      go_upto_region 9 with fail
      generalize hbE : decide (st.y < T) = hb at *
      have HBE := Lib.hid hbE
      clear hbE
      go_cut [70] (fun s70 wx => s70 = .bool (hb && decide ((300 : Int) ≤ (st.a.length : Int))) ∧ wx = w3)
      case first =>
        -- DONE{
        cases hb
        · go_wp2_with fail
          go_meet
          case rel => exact ⟨by simp, rfl⟩
        · go_wp2_with fail
          go_meet
          case rel => exact ⟨by simp, rfl⟩
        -- }DONE
      case rest =>
        obtain ⟨rfl, rfl⟩ := hcut
        cases hfull : (hb && decide ((300 : Int) ≤ (st.a.length : Int))) with
        | true =>
          have hE : feedE lo hi 0 ⟨rk, rt, rv⟩ st.x st.y (st.of 0).length = 12 := by
            simp only [Bool.and_eq_true, decide_eq_true_eq] at hfull
            have h1 := HBE.out
            rw [hfull.1] at h1
            have h2 : st.y < T := by simpa using h1
            rw [feedE_0 HG.out, if_neg (by have := HLA.out; omega), HT.out, if_pos]
            exact ⟨h2, by show 300 ≤ st.a.length; omega⟩
          go_wp2_with fail
          go_ret2
          exact rfeed_err h hX3 12 hE (by decide) (by decide)
        | false =>
          have hE : feedE lo hi 0 ⟨rk, rt, rv⟩ st.x st.y (st.of 0).length = 0 := by
            rw [feedE_0 HG.out, if_neg (by have := HLA.out; omega), HT.out, if_neg]
            rintro ⟨h1, h2⟩
            have h3 := HBE.out
            have h2' : 300 ≤ st.a.length := h2
            rw [← h3] at hfull
            simp only [Bool.and_eq_false_iff, decide_eq_false_iff_not] at hfull
            omega
          have HFU := Lib.hid hfull
          have HE := Lib.hid hE
          clear hfull hE crow C5
          have crowO := h3.j1.c3
          have hrow := h3.j1.row
          simp only [Nat.reduceAdd] at crowO
          have hso := sorted_c J 1 _ st.b _ (by omega) crowO hrow (by omega)
          go_wp2_with (
            go_at_call 28
            refine hso.mono ?_
            rintro e w5 ⟨p, cap, is, rfl, hx5, hsr, hlen, hcells⟩)
          have h5 := h3.ext hx5
          have HSR := Lib.hid hsr
          have HLN := Lib.hid hlen
          have hcl : st.b = [] ∨ ∃ b, p = some ⟨b, 0, none⟩ ∧ wc.heap.size ≤ b ∧ b < w5.heap.size ∧ ∀ i, i < st.b.length → w5.cell? ⟨b, i, none⟩ = some (.int .i64 (is[i]! : Nat)) := hcells
          have HCL := Lib.hid hcl
          have k := fun q => hx5.cell (p := ⟨u.heap.size, q, none⟩) lB3 (fun h => h)
          have B0 := (k _).trans b0
          have B1 := (k _).trans b1
          have B2 := (k _).trans b2
          have lB5 : u.heap.size < w5.heap.size := Nat.lt_of_lt_of_le lB3 hx5.size
          have hX5 : Ext u w5 := ExtM.trans _ _ _ hX3 hx5
          have nB : ∀ k, RFoot J (.slice q0 st.a.length a0) (.slice q1 st.b.length a1) k → k < u.heap.size := h.foot
          have hsz5 := hx5.size
          clear k b0 b1 b2 hsr hlen hcells hcl hso crowO hrow h3 lB3 lJ3 hx5
          go_loopg [12, 13, 75] (st.b.length + 1) (fun kx s12 s13 s75 wr => ∃ i : Nat, s75 = .int .i64 i ∧ i ≤ st.b.length ∧ st.b.length - i ≤ kx ∧ ExtM (fun k => (Value.slice q1 st.b.length a1).ownBlock = some k) w5 wr ∧ RIs wr J (.slice q0 st.a.length a0) (.slice q1 st.b.length a1) lo hi md { st with b := mixL (meetP rk F T) st.b (is.take i) } ∧ s13 = .int .i64 ((pickR (meetP rk F T) st.b (is.take i)).length : Nat) ∧ CRow wr w5.heap.size s12 (((pickR (meetP rk F T) st.b (is.take i)).map RHd.hd).flatMap (chg1 md 0 ⟨rk, rt, rv⟩)))
          case atStart => exact ⟨0, rfl, by omega, by omega, ExtM.refl _, by rw [List.take_zero, mixL_nil]; exact h5, rfl, nilC _ _⟩
          case round =>
            obtain ⟨i, rfl, hi', hgk, hx, h6, rfl, hout⟩ := hrel
            by_cases hil : i < st.b.length
            · obtain ⟨b, rfl, hb1, hb2, hbc⟩ : ∃ b, p = some ⟨b, 0, none⟩ ∧ wc.heap.size ≤ b ∧ b < w5.heap.size ∧ ∀ i, i < st.b.length → w5.cell? ⟨b, i, none⟩ = some (.int .i64 (is[i]! : Nat)) := by
                rcases HCL.out with h | h
                · rw [h] at hil; simp at hil
                · exact h
              have hgO : ∀ k, (Value.slice q1 st.b.length a1).ownBlock = some k → k < u.heap.size := fun k hk => nB k (.inr (.inr hk))
              have hsz := hX5.size
              have hX3s := hX3.size
              have hcell : wr.cell? ⟨b, i, none⟩ = some (.int .i64 (is[i]! : Nat)) := (hx.cell (p := ⟨b, i, none⟩) hb2 (fun e => by have := hgO b e; omega)).trans (hbc i hil)
              obtain ⟨htk, hq, hnq⟩ := sorted_step HSR.out HLN.out i hil
              have hgX := mixL_get (p := meetP rk F T) hnq hq
              have HGX := Lib.hid hgX
              have HMS := Lib.hid (mixL_set (p := meetP rk F T) (is := is.take i) hq)
              have HSK := Lib.hid (mixL_skip (p := meetP rk F T) (is := is.take i) hq)
              have HTK := Lib.hid htk
              clear htk hbc hgX
              generalize is[i]! = q at *
              have crow6 := h6.j1.c3
              have hrow6 := h6.j1.row
              simp only [Nat.reduceAdd] at crow6
              obtain ⟨g, rc, e', hg, x0, x1, x2, x3, x4⟩ := rrow_at hrow6 q _ HGX.out
              simp only [Value.slice.injEq] at e'
              obtain ⟨rfl, -, rfl⟩ := e'
              have HPT := Lib.hid (pickR_T (p := meetP rk F T) (L := st.b) (is := is.take i) (q := q))
              have HPF := Lib.hid (pickR_F (p := meetP rk F T) (L := st.b) (is := is.take i) (q := q))
              generalize st.b[q]! = X at *
              have k := fun o => hx.cell (p := ⟨u.heap.size, o, none⟩) lB5 (fun e => by have := hgO u.heap.size e; omega)
              have b0 := (k _).trans B0
              have b1 := (k _).trans B1
              have b2 := (k _).trans B2
              have lB6 : u.heap.size < wr.heap.size := Nat.lt_of_lt_of_le lB5 hx.size
              clear k
              go_upto_region 17 with fail
              go_cut [105] (fun s105 wx => s105 = .bool (!(meetP rk F T X.hd)) ∧ Ext wr wx)
              case first =>
                -- DONE{
                by_cases hk1 : X.r.k = rk
                · have d1 : (X.r.k != rk) = false := by simp [hk1]
                  by_cases hk2 : F ≤ X.r.t ∧ X.r.t ≤ T
                  · have HM : Hid (meetP rk F T X.hd = true) := Lib.hid ((meetP_iff _ _ _ _).2 ⟨hk1, hk2.1, hk2.2⟩)
                    have HK := Lib.hid hk2
                    clear hk1 hk2
                    refine Plan.begin Plan.Ext 19 rfl (by kernel_rfl) ?_
                    refine Plan.left_q 0 (by rfl) (by kernel_rfl) ?_; go_big_quiet_step (fail); refine wpQuiet_nil ?_
                    refine Plan.left_q 1 (by rfl) (by kernel_rfl) ?_; go_big_quiet_step (fail); refine wpQuiet_nil ?_
                    refine Plan.left_q 2 (by rfl) (by kernel_rfl) ?_; go_big_quiet_step (fail); refine wpQuiet_nil ?_
                    refine Plan.left_q 3 (by rfl) (by kernel_rfl) ?_; go_big_quiet_step (fail); refine wpQuiet_nil ?_
                    refine Plan.left_q 4 (by rfl) (by kernel_rfl) ?_; go_big_quiet_step (fail); refine wpQuiet_nil ?_
                    refine Plan.left_q 5 (by rfl) (by kernel_rfl) ?_; go_big_quiet_step (fail); refine wpQuiet_nil ?_
                    refine Plan.left_q 6 (by rfl) (by kernel_rfl) ?_; go_big_quiet_step (fail); refine wpQuiet_nil ?_
                    refine Plan.left_q 7 (by rfl) (by kernel_rfl) ?_; go_big_quiet_step (fail); refine wpQuiet_nil ?_
                    refine Plan.left_q 8 (by rfl) (by kernel_rfl) ?_; go_big_quiet_step (fail); refine wpQuiet_nil ?_
                    refine Plan.left_q 9 (by rfl) (by kernel_rfl) ?_; go_big_quiet_step (fail); refine wpQuiet_nil ?_
                    refine Plan.left_q 10 (by rfl) (by kernel_rfl) ?_; go_big_quiet_step (fail); refine wpQuiet_nil ?_
                    refine Plan.left_q 11 (by rfl) (by kernel_rfl) ?_; go_big_quiet_step (fail); refine wpQuiet_nil ?_
                    refine Plan.left_q 12 (by rfl) (by kernel_rfl) ?_; go_big_quiet_step (fail); refine wpQuiet_nil ?_
                    refine Plan.left_q 13 (by rfl) (by kernel_rfl) ?_; go_big_quiet_step (fail); refine wpQuiet_nil ?_
                    refine Plan.left_q 14 (by rfl) (by kernel_rfl) ?_; go_big_quiet_step (fail); refine wpQuiet_nil ?_
                    refine Plan.left_q 15 (by rfl) (by kernel_rfl) ?_; go_big_quiet_step (fail); refine wpQuiet_nil ?_
                    refine Plan.left_one 16 (by kernel_rfl) (by rfl) (Plan.want rfl fun K hK => ?_)
                    go_wp2_with (fail)
                    refine (rinT_c F X.r.t T _ HK.out).mono ?_
                    rintro e w7 ⟨rfl, h7⟩
                    have H7 := ExtM.trans _ _ _ (ExtM.refl _).drew h7
                    obtain ⟨hc7, hf7, -⟩ := Ext.rules H7
                    have hs7_0 : g < w7.heap.size := by have := H7.size; (try simp at this); omega
                    have hs7_1 : u.heap.size < w7.heap.size := by have := H7.size; (try simp at this); omega
                    go_wp2_with (fail)
                    refine hK _ _ h7 ?_
                    clear hK K
                    refine Plan.left_q 17 (by rfl) (by kernel_rfl) ?_; go_big_quiet_step (fail); refine wpQuiet_nil ?_
                    refine Plan.left_q 18 (by rfl) (by kernel_rfl) ?_; go_big_quiet_step (fail); refine wpQuiet_nil ?_
                    refine Plan.left_done (by kernel_rfl) ?_
                    go_wp2_with fail
                    go_meet
                    case rel => exact ⟨by rw [HM.out]; rfl, H7⟩
                  · have HM : Hid (meetP rk F T X.hd = false) := Lib.hid (Bool.eq_false_iff.2 fun h => hk2 ((meetP_iff _ _ _ _).1 h).2)
                    have HK := Lib.hid hk2
                    clear hk1 hk2
                    refine Plan.begin Plan.Ext 19 rfl (by kernel_rfl) ?_
                    refine Plan.left_q 0 (by rfl) (by kernel_rfl) ?_; go_big_quiet_step (fail); refine wpQuiet_nil ?_
                    refine Plan.left_q 1 (by rfl) (by kernel_rfl) ?_; go_big_quiet_step (fail); refine wpQuiet_nil ?_
                    refine Plan.left_q 2 (by rfl) (by kernel_rfl) ?_; go_big_quiet_step (fail); refine wpQuiet_nil ?_
                    refine Plan.left_q 3 (by rfl) (by kernel_rfl) ?_; go_big_quiet_step (fail); refine wpQuiet_nil ?_
                    refine Plan.left_q 4 (by rfl) (by kernel_rfl) ?_; go_big_quiet_step (fail); refine wpQuiet_nil ?_
                    refine Plan.left_q 5 (by rfl) (by kernel_rfl) ?_; go_big_quiet_step (fail); refine wpQuiet_nil ?_
                    refine Plan.left_q 6 (by rfl) (by kernel_rfl) ?_; go_big_quiet_step (fail); refine wpQuiet_nil ?_
                    refine Plan.left_q 7 (by rfl) (by kernel_rfl) ?_; go_big_quiet_step (fail); refine wpQuiet_nil ?_
                    refine Plan.left_q 8 (by rfl) (by kernel_rfl) ?_; go_big_quiet_step (fail); refine wpQuiet_nil ?_
                    refine Plan.left_q 9 (by rfl) (by kernel_rfl) ?_; go_big_quiet_step (fail); refine wpQuiet_nil ?_
                    refine Plan.left_q 10 (by rfl) (by kernel_rfl) ?_; go_big_quiet_step (fail); refine wpQuiet_nil ?_
                    refine Plan.left_q 11 (by rfl) (by kernel_rfl) ?_; go_big_quiet_step (fail); refine wpQuiet_nil ?_
                    refine Plan.left_q 12 (by rfl) (by kernel_rfl) ?_; go_big_quiet_step (fail); refine wpQuiet_nil ?_
                    refine Plan.left_q 13 (by rfl) (by kernel_rfl) ?_; go_big_quiet_step (fail); refine wpQuiet_nil ?_
                    refine Plan.left_q 14 (by rfl) (by kernel_rfl) ?_; go_big_quiet_step (fail); refine wpQuiet_nil ?_
                    refine Plan.left_q 15 (by rfl) (by kernel_rfl) ?_; go_big_quiet_step (fail); refine wpQuiet_nil ?_
                    refine Plan.left_one 16 (by kernel_rfl) (by rfl) (Plan.want rfl fun K hK => ?_)
                    go_wp2_with (fail)
                    refine (rinF_c F X.r.t T _ HK.out).mono ?_
                    rintro e w7 ⟨rfl, h7⟩
                    have H7 := ExtM.trans _ _ _ (ExtM.refl _).drew h7
                    obtain ⟨hc7, hf7, -⟩ := Ext.rules H7
                    have hs7_0 : g < w7.heap.size := by have := H7.size; (try simp at this); omega
                    have hs7_1 : u.heap.size < w7.heap.size := by have := H7.size; (try simp at this); omega
                    go_wp2_with (fail)
                    refine hK _ _ h7 ?_
                    clear hK K
                    refine Plan.left_q 17 (by rfl) (by kernel_rfl) ?_; go_big_quiet_step (fail); refine wpQuiet_nil ?_
                    refine Plan.left_q 18 (by rfl) (by kernel_rfl) ?_; go_big_quiet_step (fail); refine wpQuiet_nil ?_
                    refine Plan.left_done (by kernel_rfl) ?_
                    go_wp2_with fail
                    go_meet
                    case rel => exact ⟨by rw [HM.out]; rfl, H7⟩
                · have d1 : (X.r.k != rk) = true := by simp [hk1]
                  have HM : Hid (meetP rk F T X.hd = false) := Lib.hid (Bool.eq_false_iff.2 fun h => hk1 ((meetP_iff _ _ _ _).1 h).1)
                  clear hk1
                  refine Plan.begin Plan.Ext 19 rfl (by kernel_rfl) ?_
                  refine Plan.left_q 0 (by rfl) (by kernel_rfl) ?_; go_big_quiet_step (fail); refine wpQuiet_nil ?_
                  refine Plan.left_q 1 (by rfl) (by kernel_rfl) ?_; go_big_quiet_step (fail); refine wpQuiet_nil ?_
                  refine Plan.left_q 2 (by rfl) (by kernel_rfl) ?_; go_big_quiet_step (fail); refine wpQuiet_nil ?_
                  refine Plan.left_q 3 (by rfl) (by kernel_rfl) ?_; go_big_quiet_step (fail); refine wpQuiet_nil ?_
                  refine Plan.left_q 4 (by rfl) (by kernel_rfl) ?_; go_big_quiet_step (fail); refine wpQuiet_nil ?_
                  refine Plan.left_q 5 (by rfl) (by kernel_rfl) ?_; go_big_quiet_step (fail); refine wpQuiet_nil ?_
                  refine Plan.left_q 6 (by rfl) (by kernel_rfl) ?_; go_big_quiet_step (fail); refine wpQuiet_nil ?_
                  refine Plan.left_q 7 (by rfl) (by kernel_rfl) ?_; go_big_quiet_step (fail); refine wpQuiet_nil ?_
                  refine Plan.left_q 8 (by rfl) (by kernel_rfl) ?_; go_big_quiet_step (fail); refine wpQuiet_nil ?_
                  refine Plan.left_q 9 (by rfl) (by kernel_rfl) ?_; go_big_quiet_step (fail); refine wpQuiet_nil ?_
                  refine Plan.left_q 10 (by rfl) (by kernel_rfl) ?_; go_big_quiet_step (fail); refine wpQuiet_nil ?_
                  refine Plan.left_q 11 (by rfl) (by kernel_rfl) ?_; go_big_quiet_step (fail); refine wpQuiet_nil ?_
                  refine Plan.left_q 12 (by rfl) (by kernel_rfl) ?_; go_big_quiet_step (fail); refine wpQuiet_nil ?_
                  refine Plan.left_q 13 (by rfl) (by kernel_rfl) ?_; go_big_quiet_step (fail); refine wpQuiet_nil ?_
                  refine Plan.left_q 14 (by rfl) (by kernel_rfl) ?_; go_big_quiet_step (fail); refine wpQuiet_nil ?_
                  refine Plan.left_q 15 (by rfl) (by kernel_rfl) ?_; go_big_quiet_step (fail); refine wpQuiet_nil ?_
                  refine Plan.left_one 16 (by kernel_rfl) (by rfl) (Plan.skip ExtM.refl rfl ?_)
                  simp only [Act.put, List.setIfInBounds_toArray, List.set_cons_succ, List.set_cons_zero]
                  refine Plan.left_q 17 (by rfl) (by kernel_rfl) ?_; go_big_quiet_step (fail); refine wpQuiet_nil ?_
                  refine Plan.left_q 18 (by rfl) (by kernel_rfl) ?_; go_big_quiet_step (fail); refine wpQuiet_nil ?_
                  refine Plan.left_done (by kernel_rfl) ?_
                  go_wp2_with fail
                  go_meet
                  case rel => exact ⟨by rw [HM.out]; rfl, (ExtM.refl _).drew⟩
                -- }DONE
              case rest =>
                obtain ⟨rfl, hxc⟩ := hcut
                have h7 := h6.ext hxc
                have kg := fun o => hxc.cell (p := ⟨g, o, none⟩) hg (fun h => h)
                have y0 := (kg _).trans x0
                have y1 := (kg _).trans x1
                have y2 := (kg _).trans x2
                have y3 := (kg _).trans x3
                have kb := fun o => hxc.cell (p := ⟨u.heap.size, o, none⟩) lB6 (fun h => h)
                have C0 := (kb _).trans b0
                have C1 := (kb _).trans b1
                have C2 := (kb _).trans b2
                have lB7 := Nat.lt_of_lt_of_le lB6 hxc.size
                have hg7 := Nat.lt_of_lt_of_le hg hxc.size
                have hout7 := hout.of hxc
                have hxw : ExtM (fun k => (Value.slice (some ⟨g, 0, none⟩) st.b.length a1).ownBlock = some k) w5 wc := hx.fresh' hxc (fun _ _ h => h.elim)
                have m2 := h7.c2
                have lJ7 := h7.lt
                clear kg kb x0 x1 x2 x3 x4 b0 b1 b2 crow6 hrow6 hcell h6 hx hout lB6 hg
                generalize hm : meetP rk F T X.hd = pm at *
                have HM := Lib.hid hm
                clear hm
                cases pm with
                | false =>
                  have HE1 := Lib.hid (HSK.out rfl)
                  have HE2 := Lib.hid (HPF.out rfl)
                  clear HSK HPF HPT HMS
                  go_wp2_with fail
                  go_roundg (st.b.length - (i + 1))
                  case measure => omega
                  case rel => exact ⟨i + 1, by go_num, by omega, Nat.le_refl _, hxw, by rw [HTK.out, HE1.out]; exact h7, by rw [HTK.out, HE2.out], by rw [HTK.out, HE2.out]; exact hout7⟩
                | true =>
                  have HE2 := Lib.hid (HPT.out rfl)
                  clear HSK HPF HPT
                  go_upto_region 18 with fail
                  go_cut [115] (fun s115 wx => s115 = .bool (decide (X.m = 0) && tellsB md 1) ∧ wx = wc)
                  case first =>
                    -- DONE{
                    by_cases hm0 : X.m = 0
                    · have d0 : (X.m == 0) = true := by simp [hm0]
                      have HM0 := Lib.hid hm0
                      clear hm0
                      go_wp2_with (go_at_call 29; refine (told_c J md 1 _ (by omega) m2).mono ?_; rintro e w' ⟨rfl, rfl⟩)
                      go_meet
                      case rel => exact ⟨by simp [HM0.out], rfl⟩
                    · have d0 : (X.m == 0) = false := by simp [hm0]
                      have HM0 := Lib.hid hm0
                      clear hm0
                      go_wp2_with fail
                      go_meet
                      case rel => exact ⟨by simp [HM0.out], rfl⟩
                    -- }DONE
                  case rest =>
                    obtain ⟨rfl, rfl⟩ := hcut
                    generalize hq : (decide (X.m = 0) && tellsB md 1) = tq at *
                    have HQ := Lib.hid hq
                    clear hq
                    go_upto_if 115 with fail
                    have hfl := flat_len2 md 0 ⟨rk, rt, rv⟩ ((pickR (meetP rk F T) st.b (is.take i)).map RHd.hd)
                    have hpl := pickR_len (meetP rk F T) st.b (is.take i)
                    rw [List.length_map] at hfl
                    rw [List.length_take] at hpl
                    have hge : ∀ k, u12.ownBlock = some k → w5.heap.size ≤ k := fun k hk => (own_lt hout7 k hk).1
                    have hsw : w5.heap.size ≤ wc.heap.size := hxw.size
                    go_cut [12] (fun s12 wx => ExtM (fun k => w5.heap.size ≤ k) wc wx ∧ CRow wx w5.heap.size s12 (((pickR (meetP rk F T) st.b (is.take i)).map RHd.hd).flatMap (chg1 md 0 ⟨rk, rt, rv⟩) ++ (if tq = true then [(loneS 1 X.r, true)] else [])))
                    case first =>
                      -- DONE{
                      cases tq
                      · go_wp2_with fail
                        go_meet
                        case rel => exact ⟨ExtM.refl _, by simpa using hout7⟩
                      · go_wp2_with (first
                          | (go_at_call 30
                             refine (rlone1_c _ _ _ _).mono ?_
                             rintro e w6 ⟨rfl, hx6⟩
                             have hl6 : (((pickR (meetP rk F T) st.b (is.take i)).map RHd.hd).flatMap (chg1 md 0 ⟨rk, rt, rv⟩)).length < 1000000 := by omega
                             obtain ⟨v', w', happ, hown', hgr', -⟩ := run_appendC (w6.alloc (.cells #[.int .i64 X.r.k, .int .i64 0, .int .i64 0, .int .i64 0, .int .i64 X.r.k, .int .i64 X.r.t, .int .i64 X.r.v, .bool false, .bool true, .bool true] 87)) w5.heap.size w6.heap.size 1 u12 _ (loneS 1 X.r, true) 40 (hout7.of (hx6.alloc _)) (newC0 w6 (loneS 1 X.r, true)) hl6 (by have := hx6.size; simp; omega)
                             have HG' := Lib.hid (ExtM.fresh' ((hx6.alloc _).mono (fun _ _ h => h.elim) : ExtM (fun k => w5.heap.size ≤ k) _ _) hgr' (fun k hk e => hge k e)))
                          | (at_builtin; refine wpList_append_run happ rfl rfl _ _ rfl rfl rfl ?_; clear happ))
                        go_meet
                        case rel => exact ⟨HG'.out, hown'⟩
                      -- }DONE
                    case rest =>
                      obtain ⟨hx8, hout8⟩ := hcut
                      clear hxc
                      have h8 := h7.extM hx8 (fun e => by have e' : w5.heap.size ≤ J := e; omega) (fun k hk e => by have e' : w5.heap.size ≤ k := e; have := nB k (.inr (.inl hk)); omega) (fun k hk e => by have e' : w5.heap.size ≤ k := e; have := nB k (.inr (.inr hk)); omega)
                      have hgu := hgO g rfl
                      have kg := fun o => hx8.cell (p := ⟨g, o, none⟩) hg7 (fun e => by have e' : w5.heap.size ≤ g := e; omega)
                      have z0 := (kg _).trans y0
                      have z1 := (kg _).trans y1
                      have z2 := (kg _).trans y2
                      have z3 := (kg _).trans y3
                      have kb := fun o => hx8.cell (p := ⟨u.heap.size, o, none⟩) lB7 (fun e => by have e' : w5.heap.size ≤ u.heap.size := e; omega)
                      have D0 := (kb _).trans C0
                      have D1 := (kb _).trans C1
                      have D2 := (kb _).trans C2
                      have lB8 := Nat.lt_of_lt_of_le lB7 hx8.size
                      have hg8 := Nat.lt_of_lt_of_le hg7 hx8.size
                      have hxw8 : ExtM (fun k => (Value.slice (some ⟨g, 0, none⟩) st.b.length a1).ownBlock = some k) w5 wc := hxw.fresh' hx8 (fun k hk e => by have e' : w5.heap.size ≤ k := e; omega)
                      clear kg kb y0 y1 y2 y3 C0 C1 C2 lB7 hg7 h7 hout7 hxw hx8 hge hsw lJ7 m2
                      go_upto_region 20 with fail
                      go_cut [17] (fun s17 wx => OutAt wc wx s17 (outL (pairO ⟨rk, rt, rv⟩ X.r)))
                      case first =>
                        -- DONE{
                        refine Plan.beginT Plan.Ext [7] 8 rfl (by kernel_rfl) ?_
                        refine Plan.left_q 0 (by rfl) (by kernel_rfl) ?_; go_big_quiet_step (fail); refine wpQuiet_nil ?_
                        refine Plan.left_q 1 (by rfl) (by kernel_rfl) ?_; go_big_quiet_step (fail); refine wpQuiet_nil ?_
                        refine Plan.left_q 2 (by rfl) (by kernel_rfl) ?_; go_big_quiet_step (fail); refine wpQuiet_nil ?_
                        refine Plan.left_q 3 (by rfl) (by kernel_rfl) ?_; go_big_quiet_step (fail); refine wpQuiet_nil ?_
                        refine Plan.left_q 4 (by rfl) (by kernel_rfl) ?_; go_big_quiet_step (fail); refine wpQuiet_nil ?_
                        refine Plan.left_two 5 6 (by kernel_rfl) (by rfl) (by rfl) (Plan.plain rfl fun K hK => ?_) (Plan.plain rfl fun K hK => ?_)
                        focus
                          go_wp2_with (fail)
                          refine (rpair_c rk rt rv X.r.k X.r.t X.r.v _).mono ?_
                          rintro e w8 ⟨rfl, h8⟩
                          have H8 := ExtM.trans _ _ _ (ExtM.refl _).drew h8
                          obtain ⟨hc8, hf8, -⟩ := Ext.rules H8
                          have hs8_0 : g < w8.heap.size := by have := H8.size; (try simp at this); omega
                          have hs8_1 : u.heap.size < w8.heap.size := by have := H8.size; (try simp at this); omega
                          go_wp2_with (fail)
                          refine hK _ _ h8 ?_
                          clear hK K
                          refine Plan.left_one 6 (by kernel_rfl) (by rfl) (Plan.plain rfl fun K hK => ?_)
                          go_wp2_with (fail)
                          refine hK _ _ ((ExtM.refl _).alloc _) ?_
                          clear hK K
                        rotate_left
                        focus
                          go_wp2_with (fail)
                          refine hK _ _ ((ExtM.refl _).alloc _) ?_
                          clear hK K
                          refine Plan.left_one 5 (by kernel_rfl) (by rfl) (Plan.plain rfl fun K hK => ?_)
                          go_wp2_with (fail)
                          refine (rpair_c rk rt rv X.r.k X.r.t X.r.v _).mono ?_
                          rintro e w8 ⟨rfl, h8⟩
                          have H8 := ExtM.trans _ _ _ ((ExtM.refl _).drew.alloc _) h8
                          obtain ⟨hc8, hf8, -⟩ := Ext.rules H8
                          have hs8_0 : g < w8.heap.size := by have := H8.size; (try simp at this); omega
                          have hs8_1 : u.heap.size < w8.heap.size := by have := H8.size; (try simp at this); omega
                          go_wp2_with (fail)
                          refine hK _ _ h8 ?_
                          clear hK K
                        · obtain ⟨hn, hfz, hlt⟩ := newOut_facts' h8
                          have n0 := hn 0 _ rfl
                          have n1 := hn 1 _ rfl
                          have n2 := hn 2 _ rfl
                          have n3 := hn 3 _ rfl
                          have n4 := hn 4 _ rfl
                          have n5 := hn 5 _ rfl
                          have n6 := hn 6 _ rfl
                          have n7 := hn 7 _ rfl
                          have n8 := hn 8 _ rfl
                          refine Plan.left_one 7 (by kernel_rfl) (by rfl) (Plan.last rfl (by kernel_rfl) fun K hK => ?_)
                          go_wp2_with (fail)
                          refine Plan.left_done (by kernel_rfl) ?_
                          go_wp2_with fail
                          go_meet
                          case rel => exact outA (pairO ⟨rk, rt, rv⟩ X.r) H8 hn hfz hlt
                        · refine Plan.left_one 7 (by kernel_rfl) (by rfl) (Plan.last rfl (by kernel_rfl) fun K hK => ?_)
                          go_wp2_with (fail)
                          refine Plan.left_done (by kernel_rfl) ?_
                          go_wp2_with fail
                          go_meet
                          case rel => exact outB (pairO ⟨rk, rt, rv⟩ X.r) H8
                      -- }DONE
                      case rest =>
                        obtain ⟨Bo, rfl, hBo, hBl, hx9, hno, hfo⟩ := hcut
                        have h9 := h8.ext hx9
                        have E3 := (hx9.cell (p := ⟨g, q * 5 + 3, none⟩) hg8 (fun h => h)).trans z3
                        have hg9 := Nat.lt_of_lt_of_le hg8 hx9.size
                        have hout9 := hout8.of hx9
                        have n0 := hno 0 _ rfl
                        have n1 := hno 1 _ rfl
                        have n2 := hno 2 _ rfl
                        have n3 := hno 3 _ rfl
                        have n4 := hno 4 _ rfl
                        have n5 := hno 5 _ rfl
                        have n6 := hno 6 _ rfl
                        have n7 := hno 7 _ rfl
                        have n8 := hno 8 _ rfl
                        have hxw9 : ExtM (fun k => (Value.slice (some ⟨g, 0, none⟩) st.b.length a1).ownBlock = some k) w5 wc := hxw8.fresh' hx9 (fun _ _ h => h.elim)
                        clear hno z0 z1 z2 z3 D0 D1 D2 lB8 hg8 h8 hout8 hxw8 hx9
                        go_upto_region 21 with fail
                        have hl9 : (((pickR (meetP rk F T) st.b (is.take i)).map RHd.hd).flatMap (chg1 md 0 ⟨rk, rt, rv⟩) ++ (if tq = true then [(loneS 1 X.r, true)] else [])).length < 1000000 := by
                          rw [List.length_append]
                          have : (if tq = true then [(loneS 1 X.r, true)] else [] : List (Out × Bool)).length ≤ 1 := by split <;> simp
                          omega
                        have hge9 : ∀ k, u12.ownBlock = some k → w5.heap.size ≤ k := fun k hk => (own_lt hout9 k hk).1
                        have hs9 : w5.heap.size ≤ wc.heap.size := hxw9.size
                        obtain ⟨v', w', happ, hown', hgr', -⟩ := run_appendC (wc.alloc (.cells #[.int .i64 rk, .int .i64 rk, .int .i64 rt, .int .i64 rv, .int .i64 X.r.k, .int .i64 X.r.t, .int .i64 X.r.v, .bool true, .bool true, .bool false] 87)) w5.heap.size wc.heap.size 1 u12 _ (pairO ⟨rk, rt, rv⟩ X.r, false) 40 (hout9.of ((ExtM.refl wc : Ext wc wc).alloc _)) (newC0 wc (pairO ⟨rk, rt, rv⟩ X.r, false)) hl9 (by simp; omega)
                        have hx10 : ExtM (fun k => w5.heap.size ≤ k) wc w' := ExtM.fresh' (((ExtM.refl wc : Ext wc wc).alloc _).mono (fun _ _ h => h.elim) : ExtM (fun k => w5.heap.size ≤ k) _ _) hgr' (fun k hk e => hge9 k e)
                        have hgu := hgO g rfl
                        have h10 := h9.extM hx10 (fun e => by have e' : w5.heap.size ≤ J := e; omega) (fun k hk e => by have e' : w5.heap.size ≤ k := e; have := nB k (.inr (.inl hk)); omega) (fun k hk e => by have e' : w5.heap.size ≤ k := e; have := nB k (.inr (.inr hk)); omega)
                        have fz10 : w'.frozen? ⟨g, q * 5 + 3, none⟩ = false := by
                          have hlq : q < (mixL (meetP rk F T) st.b (is.take i)).length := by rw [mixL_len]; exact hq
                          obtain ⟨g', cap', e1, -, -, e2⟩ := own_cell (enc := RHd.cells) rhd_len h10.j1.row q 3 hlq (by omega)
                          simp only [Value.slice.injEq, Option.some.injEq, Addr.mk.injEq, and_true] at e1
                          rw [e1.1]; exact e2
                        have E10 := (hx10.cell (p := ⟨g, q * 5 + 3, none⟩) hg9 (fun e => by have e' : w5.heap.size ≤ g := e; omega)).trans E3
                        obtain ⟨h11, hx11⟩ := h10.setM1 q X HGX.out (wrap64 (X.m + 1))
                        have hset : (mixL (meetP rk F T) st.b (is.take i)).set q ⟨X.r, wrap64 (X.m + 1), X.c⟩ = mixL (meetP rk F T) st.b (is.take (i + 1)) := by
                          have hb : bumpQ (meetP rk F T) X = ⟨X.r, wrap64 (X.m + 1), X.c⟩ := by unfold bumpQ; rw [HM.out]; rfl
                          rw [← hb, HMS.out, HTK.out]
                        have h12 : RIs (w'.setCell ⟨g, q * 5 + 3, none⟩ (.int .i64 (wrap64 (X.m + 1)))) J (.slice q0 st.a.length a0) (.slice (some ⟨g, 0, none⟩) st.b.length a1) lo hi md { st with b := mixL (meetP rk F T) st.b (is.take (i + 1)) } := by
                          rw [← hset]; exact h11
                        have hout12 := own_ext hown' hx11 (fun k hk e => by have h1 := (own_lt hown' k hk).1; have e' : k = g := e; omega)
                        have hx12 : ExtM (fun k => (Value.slice (some ⟨g, 0, none⟩) st.b.length a1).ownBlock = some k) w5 (w'.setCell ⟨g, q * 5 + 3, none⟩ (.int .i64 (wrap64 (X.m + 1)))) :=
                          (hxw9.fresh' hx10 (fun k hk e => by have e' : w5.heap.size ≤ k := e; omega)).fresh' hx11 (fun k _ e => by have e' : k = g := e; rw [e']; rfl)
                        have hplt : (pickR (meetP rk F T) st.b (is.take i)).length ≤ 300 := by omega
                        have H12 := Lib.hid h12
                        have HO12 := Lib.hid hout12
                        have HX12 := Lib.hid hx12
                        clear h12 hout12 hx12 hset h11 hx11 h10 hown' hgr' hout9 h9 hl9 hge9 hfl hpl
                        go_wp2_with (at_builtin; refine wpList_append_run happ rfl rfl _ _ rfl rfl rfl ?_; clear happ)
                        go_roundg (st.b.length - (i + 1))
                        case measure => omega
                        case rel =>
                          refine ⟨i + 1, by go_num, by omega, Nat.le_refl _, HX12.out, H12.out, ?_, ?_⟩
                          · rw [HTK.out, HE2.out, List.length_append, List.length_singleton]; push_cast; rfl
                          · rw [HTK.out, HE2.out, List.map_append, List.map_singleton, List.flatMap_append, List.flatMap_singleton, chg1_eq]
                            show CRow _ _ _ (_ ++ ((if (decide (X.m = 0) && tellsB md 1) = true then _ else _) ++ _))
                            rw [HQ.out, ← List.append_assoc]
                            exact HO12.out
            · have hie : i = st.b.length := by omega
              subst hie
              have htk : is.take st.b.length = is := List.take_of_length_le (by have := HLN.out; omega)
              rw [htk] at h6 hout
              have hall : ∀ j, j < st.b.length → j ∈ is := fun j hj => HSR.out.1.mem_iff.2 (List.mem_range.2 hj)
              rw [mixL_all hall] at h6
              obtain ⟨hR1, hR2, hR3⟩ := sorted_done HSR.out (meetP rk F T)
              rw [hR3] at hout
              have hgO : ∀ k, (Value.slice q1 st.b.length a1).ownBlock = some k → k < u.heap.size := fun k hk => nB k (.inr (.inr hk))
              have hsz := hX5.size
              have k := fun o => hx.cell (p := ⟨u.heap.size, o, none⟩) lB5 (fun e => by have := hgO u.heap.size e; omega)
              have b0 := (k _).trans B0
              have b1 := (k _).trans B1
              have b2 := (k _).trans B2
              have lB6 : u.heap.size < wr.heap.size := Nat.lt_of_lt_of_le lB5 hx.size
              have hplen : (pickR (meetP rk F T) st.b is).length = ((((is.map (fun q => st.b[q]!)).map RHd.hd).filter (meetP rk F T))).length := by rw [← hR3, List.length_map]
              rw [htk]
              have HPL := Lib.hid hplen
              have hlen2 : (((is.map (fun q => st.b[q]!)).map RHd.hd).filter (meetP rk F T)).length ≤ 300 := Nat.le_trans (List.length_filter_le _ _) (by simp; have := HLN.out; omega)
              have HCNT : Hid ((((is.map (fun q => st.b[q]!)).map RHd.hd).filter (meetP rk F T)).length = (st.b.filter (fun x => meetP rk F T x.hd)).length) := Lib.hid (sorted_count hR1 _)
              have HR1 := Lib.hid hR1
              have HR2 := Lib.hid hR2
              generalize is.map (fun q => st.b[q]!) = R at *
              generalize hms : (R.map RHd.hd).filter (meetP rk F T) = ms at *
              have HMS := Lib.hid hms
              rw [hplen]
              have m2 := h6.c2
              have HX6 := Lib.hid hx
              have hX6 : ExtM (RFoot J (.slice q0 st.a.length a0) (.slice q1 st.b.length a1)) u wr := (hX5.mono (fun _ _ h => h.elim) : ExtM (RFoot J (.slice q0 st.a.length a0) (.slice q1 st.b.length a1)) u w5).fresh' hx (fun k _ hk => .inr (.inr hk))
              clear k hms hplen hR1 hR2 hR3 hall htk hi' hil hgk h5 HCL HLN B0 B1 B2
              go_upto_region 27 with fail
              go_cut [161] (fun s161 wx => s161 = .bool (decide (ms.length = 0) && tellsB md 0) ∧ wx = wr)
              case first =>
                -- DONE{
                by_cases hm0 : ms.length = 0
                · have d0 : ((ms.length : Int) == 0) = true := by simp [hm0]
                  have HM0 := Lib.hid hm0
                  clear hm0
                  go_wp2_with (go_at_call 29; refine (told_c J md 0 _ (by omega) m2).mono ?_; rintro e w' ⟨rfl, rfl⟩)
                  go_meet
                  case rel => exact ⟨by simp [HM0.out], rfl⟩
                · have d0 : ((ms.length : Int) == 0) = false := by simp [hm0]
                  have HM0 := Lib.hid hm0
                  clear hm0
                  go_wp2_with fail
                  go_meet
                  case rel => exact ⟨by simp [HM0.out], rfl⟩
              -- }DONE
              case rest =>
                obtain ⟨rfl, rfl⟩ := hcut
                generalize hq : (decide (ms.length = 0) && tellsB md 0) = tq at *
                have HQ := Lib.hid hq
                clear hq
                go_upto_if 161 with fail
                have hfl := flat_len2 md 0 ⟨rk, rt, rv⟩ ms
                have hge : ∀ k, u12.ownBlock = some k → w5.heap.size ≤ k := fun k hk => (own_lt hout k hk).1
                have hsw : w5.heap.size ≤ wc.heap.size := HX6.out.size
                go_cut [12] (fun s12 wx => ExtM (fun k => w5.heap.size ≤ k) wc wx ∧ CRow wx w5.heap.size s12 (chgs md 0 ⟨rk, rt, rv⟩ ms))
                case first =>
                  -- DONE{
                  cases tq
                  · go_wp2_with fail
                    go_meet
                    case rel =>
                      refine ⟨ExtM.refl _, ?_⟩
                      rw [chgs_eq, HQ.out, if_neg (by decide), List.append_nil]
                      exact hout
                  · go_wp2_with (first
                      | (go_at_call 30
                         refine (rlone0_c _ _ _ _).mono ?_
                         rintro e w6 ⟨rfl, hx6⟩
                         have hl6 : (ms.flatMap (chg1 md 0 ⟨rk, rt, rv⟩)).length < 1000000 := by omega
                         obtain ⟨v', w', happ, hown', hgr', -⟩ := run_appendC (w6.alloc (.cells #[.int .i64 rk, .int .i64 rk, .int .i64 rt, .int .i64 rv, .int .i64 0, .int .i64 0, .int .i64 0, .bool true, .bool false, .bool false] 87)) w5.heap.size w6.heap.size 1 u12 _ (loneS 0 ⟨rk, rt, rv⟩, false) 40 (hout.of (hx6.alloc _)) (newC0 w6 (loneS 0 ⟨rk, rt, rv⟩, false)) hl6 (by have := hx6.size; simp; omega)
                         have HG' := Lib.hid (ExtM.fresh' ((hx6.alloc _).mono (fun _ _ h => h.elim) : ExtM (fun k => w5.heap.size ≤ k) _ _) hgr' (fun k hk e => hge k e)))
                      | (at_builtin; refine wpList_append_run happ rfl rfl _ _ rfl rfl rfl ?_; clear happ))
                    go_meet
                    case rel =>
                      refine ⟨HG'.out, ?_⟩
                      rw [chgs_eq, HQ.out, if_pos rfl]
                      exact hown'
                -- }DONE
                case rest =>
                  obtain ⟨hxc, hrowt⟩ := hcut
                  have h7 := h6.extM hxc (fun e => by have e' : w5.heap.size ≤ J := e; omega) (fun k hk e => by have e' : w5.heap.size ≤ k := e; have := nB k (.inr (.inl hk)); omega) (fun k hk e => by have e' : w5.heap.size ≤ k := e; have := nB k (.inr (.inr hk)); omega)
                  have k := fun q => hxc.cell (p := ⟨u.heap.size, q, none⟩) lB6 (fun h => by have h' : w5.heap.size ≤ u.heap.size := h; omega)
                  have C0 := (k _).trans b0
                  have C1 := (k _).trans b1
                  have C2 := (k _).trans b2
                  have hX7 := hX6.fresh' hxc (fun k hk e => by have e' : w5.heap.size ≤ k := e; omega)
                  have hb5 : u.heap.size ≤ w5.heap.size := hX5.size
                  clear k b0 b1 b2 hxc h6 hge hfl hout hX6 hx
                  go_upto_region 29 with fail
                  cases hb with
                  | false =>
                    go_wp2_with fail
                    go_ret2
                    have e1 := HT.out
                    have e2 := HF.out
                    have e3 := HBE.out
                    subst e1 e2
                    refine rfeed_ok HE.out HR1.out HR2.out HMS.out hrowt hb5 ?_
                    rw [rfeedJ0_no HE.out (by simpa using e3)]
                    exact ⟨hX7, _, ⟨_, _, h7, rfl⟩, fun k hk => .inl hk⟩
                  | true =>
                    have hlt : st.a.length < 300 := by
                      have h1 := HFU.out
                      simp at h1
                      omega
                    go_wp2_with (
                      go_at_call 32
                      refine (putU_c J 0 _ st.a st.came rk rt rv _ _ h7.j0 (by omega) hcm).mono ?_
                      rintro e w8 ⟨rfl, hu⟩)
                    go_ret2
                    have e1 := HT.out
                    have e2 := HF.out
                    have e3 := HBE.out
                    subst e1 e2
                    have hu2 := h7.up0 hu
                    have hrow8 := own_ext hrowt hu2.1 (fun k hk e => by have h1 := (own_lt hrowt k hk).1; have h2 := nB k e; omega)
                    refine rfeed_ok HE.out HR1.out HR2.out HMS.out hrow8 hb5 ?_
                    rw [rfeedJ0_yes HE.out (by simpa using e3)]
                    have h9 : RUp u w8 J (RFoot J (.slice q0 st.a.length a0) (.slice q1 st.b.length a1)) lo hi md _ := RUp.trans hX7 (fun k hk => .inl hk) hu2
                    rw [← HCNT.out]
                    exact h9
end Go.Proofs.YtggjceolhbdalaaGreatDoor
