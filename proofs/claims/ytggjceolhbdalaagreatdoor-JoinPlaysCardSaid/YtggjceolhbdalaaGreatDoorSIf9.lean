/- sort's pdqsort_func over an abstract less and swap. -/
import Derived.Test.YtggjceolhbdalaaGreatDoorSIf4
import Derived.Test.YtggjceolhbdalaaGreatDoorSIf5
import Derived.Test.YtggjceolhbdalaaGreatDoorSIf7
import Derived.Test.YtggjceolhbdalaaGreatDoorSIf8
import Derived.Sort.Walk13
namespace Go.Proofs.YtggjceolhbdalaaGreatDoor
open Go.RowKit Go.Plan Go.Sort
variable {α : Type} [Inhabited α]


set_option maxRecDepth 1000000 in
set_option maxHeartbeats 25600000 in
theorem pdq_c {n : Nat} {lt : α → α → Bool} {g : Nat} {lb : Array Value} {sf : Nat} {sb : Array Value} {blk : Nat} {H : Array α → World → Prop} (I : SIf n lt g lb sf sb blk H) (hO : SWO lt) (hn : n < 1000000) :
    ∀ (N a b limit : Nat) (d : Array α) (w : World), b - a < N → H d w → d.size = n → a ≤ b → b ≤ n → limit < 4611686018427387904 → Sort.Below lt a b d →
    Calls Tryz.prog 60 #[.agg #[.func (.func g) #[] lb, .func (.func sf) #[] sb], .int .i64 a, .int .i64 b, .int .i64 limit] w fun e w' => e = .returned (.tuple #[]) ∧ H (pdq lt d a b limit true true) w' ∧ ExtM (fun k => k = blk) w w' := by
  intro N
  induction N with
  | zero => intro _ _ _ _ _ h; exact absurd h (Nat.not_lt_zero _)
  | succ N ih =>
    intro a b limit d w hN hH hs hab hb hlimit hBel0
    have IH := Lib.hid ih
    clear ih
    have hbl := I.lt' d w hH
    have hx1 : Ext w (w.alloc (.cells #[.func (.func g) #[] lb, .func (.func sf) #[] sb] 126)) := (ExtM.refl w).alloc _
    have hH1 := I.ext d w _ hH hx1
    have eg := I.eg
    go_enter Tryz.func60, Tryz.ntmps60
    go_wp2
    have q0 : (w.alloc (.cells #[.func (.func g) #[] lb, .func (.func sf) #[] sb] 126)).cell? ⟨w.heap.size, 0, none⟩ = some (.func (.func g) #[] lb) := by go_simp
    have q1 : (w.alloc (.cells #[.func (.func g) #[] lb, .func (.func sf) #[] sb] 126)).cell? ⟨w.heap.size, 1, none⟩ = some (.func (.func sf) #[] sb) := by go_simp
    have hN1 : w.heap.size < (w.alloc (.cells #[.func (.func g) #[] lb, .func (.func sf) #[] sb] 126)).heap.size := by simp
    generalize w.alloc (.cells #[.func (.func g) #[] lb, .func (.func sf) #[] sb] 126) = W1 at *
    have hcc : ∀ u, ExtM (fun k => k = blk) W1 u → u.cell? ⟨w.heap.size, 0, none⟩ = some (.func (.func g) #[] lb) ∧ u.cell? ⟨w.heap.size, 1, none⟩ = some (.func (.func sf) #[] sb) := fun u hu =>
      ⟨(hu.cell (p := ⟨w.heap.size, 0, none⟩) hN1 (by simp; omega)).trans q0, (hu.cell (p := ⟨w.heap.size, 1, none⟩) hN1 (by simp; omega)).trans q1⟩
    have HCC := Lib.hid hcc
    clear hcc q0 q1
    go_loopg [1, 2, 3, 8, 9] (b - a) (fun k s1 s2 s3 s8 s9 wr => ∃ (a' b' lim : Nat) (wb wp : Bool) (dk : Array α), s1 = .int .i64 a' ∧ s2 = .int .i64 b' ∧ s3 = .int .i64 lim ∧ s8 = .bool wb ∧ s9 = .bool wp ∧
      a' ≤ b' ∧ b' ≤ n ∧ b' - a' ≤ k ∧ k ≤ b - a ∧ lim ≤ limit ∧ dk.size = n ∧ Sort.Below lt a' b' dk ∧ H dk wr ∧ ExtM (fun k => k = blk) W1 wr ∧ pdq lt dk a' b' lim wb wp = pdq lt d a b limit true true)
    case atStart => exact ⟨a, b, limit, true, true, d, rfl, rfl, rfl, rfl, rfl, hab, hb, Nat.le_refl _, Nat.le_refl _, Nat.le_refl _, hs, hBel0, hH1, ExtM.refl _, rfl⟩
    case round =>
      obtain ⟨a', b', lim, wb, wp, dk, rfl, rfl, rfl, rfl, rfl, hab', hb', hk, hkN, hlim, hds, hBel, hHk, hxk, heq⟩ := hrel
      obtain ⟨x0, x1⟩ := HCC.out _ hxk
      have A : Aside (pdq lt dk a' b' lim wb wp = pdq lt d a b limit true true) := heq
      clear heq hBel0 hH1 hH
      have hend : ∀ u, ExtM (fun k => k = blk) W1 u → ExtM (fun k => k = blk) w u := fun u hu => ExtM.trans _ _ _ (ext_none hx1) hu
      have HEND := Lib.hid hend
      clear hend
      by_cases h12 : b' - a' ≤ 12
      · have h12z : (b' : Int) - (a' : Int) ≤ 12 := by omega
        have hc := insSort_c I a' b' dk wr hHk hds hab' (by omega) hn
        go_wp2_with (go_at_call 81; refine hc.mono ?_; rintro e w1 ⟨rfl, hHw1, hyw1⟩)
        (try simp only [Exit.inBlock, Exit.then]); refine bodyPost_ret (results_none rfl _ _ _) rfl ?_
        refine ⟨rfl, ?_, HEND.out _ (ExtM.trans _ _ _ hxk hyw1)⟩
        rw [← A.out, pdq_small h12]
        exact hHw1
      · have h12z : ¬ ((b' : Int) - (a' : Int) ≤ 12) := by omega
        by_cases hl0 : lim = 0
        · subst hl0
          have hc := heapSort_c I a' b' dk wr hHk hds hab' (by omega) hn
          go_wp2_with (go_at_call 82; refine hc.mono ?_; rintro e w1 ⟨rfl, hHw1, hyw1⟩)
          (try simp only [Exit.inBlock, Exit.then]); refine bodyPost_ret (results_none rfl _ _ _) rfl ?_
          refine ⟨rfl, ?_, HEND.out _ (ExtM.trans _ _ _ hxk hyw1)⟩
          rw [← A.out, pdq_heap h12 rfl]
          exact hHw1
        · have hl0z : ¬ ((lim : Int) = 0) := by omega
          obtain ⟨s1, B1, hc1, s2, B2, hpv, s3, B3⟩ := rd_facts (lt := lt) (limit := lim) (wb := wb) (wp := wp) hO partialInsertionSort_holds reverseRange_holds (show a' < b' by omega) (show b' ≤ dk.size by omega) hBel
          go_upto_if 35 with fail
          go_cut [3] from 19 (fun s3 wc => s3 = .int .i64 (rd lt dk a' b' lim wb wp).lim ∧ H (rd lt dk a' b' lim wb wp).d1 wc ∧ ExtM (fun k => k = blk) W1 wc)
          case first =>
            cases wb
            · have hc := breakPat_c I a' b' dk wr hHk hds hab' (by omega) hn
              go_wp2_with (go_at_call 83; refine hc.mono ?_; rintro e w1 ⟨rfl, hHw1, hyw1⟩)
              go_meet
              case rel =>
                refine ⟨?_, hHw1, ExtM.trans _ _ _ hxk hyw1⟩
                show Value.int .i64 ((lim : Int) - 1) = Value.int .i64 ((lim - 1 : Nat) : Int)
                congr 1
                omega
            · go_wp2_with fail
              go_meet
              case rel => exact ⟨rfl, hHk, hxk⟩
          case rest =>
            obtain ⟨rfl, hH1, hxc⟩ := hcut
            clear x0 x1 hHk hxk
            obtain ⟨y0, y1⟩ := HCC.out _ hxc
            have hc17 : Calls Tryz.prog 84 #[.agg #[.func (.func g) #[] lb, .func (.func sf) #[] sb], .int .i64 a', .int .i64 b'] wc fun e w' => e = .returned (.tuple #[.int .i64 (rd lt dk a' b' lim wb wp).c.1, .int .i64 (hintCode (rd lt dk a' b' lim wb wp).c.2)]) ∧ H (rd lt dk a' b' lim wb wp).d1 w' ∧ Ext wc w' :=
              choosePivot_c I a' b' (rd lt dk a' b' lim wb wp).d1 wc hH1 (s1.trans hds) (by omega) (by omega) hn
            go_upto_if 50 with (go_at_call 84; refine hc17.mono ?_; rintro e w2 ⟨rfl, hHw2, hyw2⟩)
            have hxw2 := ExtM.trans _ _ _ hxc (ext_none hyw2)
            clear y0 y1 hc17
            obtain ⟨z0, z1⟩ := HCC.out _ hxw2
            go_cut [11, 12] from 19 (fun s11 s12 wc => s11 = .int .i64 (rd lt dk a' b' lim wb wp).pivot ∧ s12 = .int .i64 (hintCode (rd lt dk a' b' lim wb wp).hint) ∧ H (rd lt dk a' b' lim wb wp).d2 wc ∧ ExtM (fun k => k = blk) W1 wc)
            case first =>
              by_cases hh : (rd lt dk a' b' lim wb wp).c.2 = .decreasing
              · have hcode : hintCode (rd lt dk a' b' lim wb wp).c.2 = 2 := by rw [hh]; rfl
                obtain ⟨e2, epv, eht⟩ := rd_dec hh
                have hc18 := reverseRange_c I a' b' (rd lt dk a' b' lim wb wp).d1 w2 hHw2 (s1.trans hds) hab' (by omega) hn
                go_wp2_with (go_at_call 85; refine hc18.mono ?_; rintro e w3 ⟨rfl, hHw3, hyw3⟩)
                go_meet
                case rel =>
                  refine ⟨?_, by rw [eht]; rfl, by rw [e2]; exact hHw3, ExtM.trans _ _ _ hxw2 hyw3⟩
                  rw [epv]
                  congr 1
                  omega
              · have hcode : ¬ (hintCode (rd lt dk a' b' lim wb wp).c.2 = 2) := fun h => hh (hintCode_two h)
                obtain ⟨e2, epv, eht⟩ := rd_not hh
                go_wp2_with fail
                go_meet
                case rel => exact ⟨by rw [epv], by rw [eht], by rw [e2]; exact hHw2, hxw2⟩
            case rest =>
              clear hHw2 hxw2 hyw2 hH1 hxc z0 z1
              obtain ⟨rfl, rfl, hH3, hx3⟩ := hcut
              obtain ⟨v0, v1⟩ := HCC.out _ hx3
              go_upto_region 16 with fail
              go_cut [12, 68] from 19 (fun s12 s68 wx => s12 = .int .i64 (hintCode (rd lt dk a' b' lim wb wp).hint) ∧ s68 = .bool (wb && wp && decide ((rd lt dk a' b' lim wb wp).hint = .increasing)) ∧ wx = wc)
              case first =>
                cases wb <;> cases wp <;> cases hh3 : (rd lt dk a' b' lim _ _).hint <;>
                  (have hcode3 := congrArg hintCode hh3
                   simp only [hintCode] at hcode3
                   go_wp2_with fail
                   go_meet
                   exact ⟨by simp [hh3, hintCode], by simp [hh3, hintCode], rfl⟩)
              case rest =>
                obtain ⟨rfl, rfl, rfl⟩ := hcut
                go_upto_if 68 with fail
                go_cut [] from 19 (fun wx => (rd lt dk a' b' lim wb wp).pi.2 = false ∧ H (rd lt dk a' b' lim wb wp).pi.1 wx ∧ ExtM (fun k => k = blk) W1 wx)
                case first =>
                  cases h68 : (wb && wp && decide ((rd lt dk a' b' lim wb wp).hint = .increasing))
                  · have epi := rd_pi_no h68
                    go_wp2_with fail
                    go_meet
                    case rel => exact ⟨by rw [epi], by rw [epi]; exact hH3, hx3⟩
                  · have epi := rd_pi_yes h68
                    have hc19 := partialIns_c I a' b' (rd lt dk a' b' lim wb wp).d2 wc hH3 (s2.trans hds) (by omega) (by omega) hn
                    rw [← epi] at hc19
                    go_wp2_with (go_at_call 86; refine hc19.mono ?_; rintro e w4 ⟨rfl, hHw4, hyw4⟩)
                    all_goals first
                      | (have hp2 : (rd lt dk a' b' lim wb wp).pi.2 = false := by rw [epi]; assumption
                         go_meet
                         exact ⟨hp2, hHw4, ExtM.trans _ _ _ hx3 hyw4⟩)
                      | (have hp2 : (rd lt dk a' b' lim wb wp).pi.2 = true := by rw [epi]; assumption
                         (try simp only [Exit.inBlock, Exit.then]); refine bodyPost_ret (results_none rfl _ _ _) rfl ?_
                         refine ⟨rfl, ?_, HEND.out _ (ExtM.trans _ _ _ hx3 hyw4)⟩
                         rw [← A.out, pdq_done h12 hl0 hp2]
                         exact hHw4)
                case rest =>
                  clear v0 v1 hH3 hx3
                  obtain ⟨hp2, hH5, hx5⟩ := hcut
                  obtain ⟨t0, t1⟩ := HCC.out _ hx5
                  go_upto_region 18 with fail
                  go_cut [83] from 19 (fun s83 wx => s83 = .bool (decide (a' > 0) && !lt (rd lt dk a' b' lim wb wp).pi.1[a' - 1]! (rd lt dk a' b' lim wb wp).pi.1[(rd lt dk a' b' lim wb wp).pivot]!) ∧ H (rd lt dk a' b' lim wb wp).pi.1 wx ∧ ExtM (fun k => k = blk) W1 wx)
                  case first =>
                    rcases Nat.eq_zero_or_pos a' with ha0 | ha0
                    · have ha0z : decide ((a' : Int) > 0) = false := decide_eq_false (by omega)
                      go_wp2_with fail
                      go_meet
                      case rel => exact ⟨by simp [ha0], hH5, hx5⟩
                    · have ha0z : (a' : Int) > 0 := by omega
                      have hl := I.less (rd lt dk a' b' lim wb wp).pi.1 wc (a' - 1) (rd lt dk a' b' lim wb wp).pivot (s3.trans hds) hH5 (by omega) (by omega)
                      rw [show ((a' - 1 : Nat) : Int) = (a' : Int) - 1 by omega] at hl
                      cases hlv : lt (rd lt dk a' b' lim wb wp).pi.1[a' - 1]! (rd lt dk a' b' lim wb wp).pi.1[(rd lt dk a' b' lim wb wp).pivot]! <;>
                        (rw [hlv] at hl
                         go_wp2_with (go_at_fn g; refine hl.mono ?_; rintro e w' ⟨rfl, hy⟩)
                         go_meet
                         exact ⟨by simp [ha0, hlv], I.ext _ _ _ hH5 hy, ExtM.trans _ _ _ hx5 (ext_none hy)⟩)
                  case rest =>
                    clear t0 t1 hH5 hx5
                    obtain ⟨rfl, hH6, hx6⟩ := hcut
                    obtain ⟨q0, q1⟩ := HCC.out _ hx6
                    cases h87 : (decide (a' > 0) && !lt (rd lt dk a' b' lim wb wp).pi.1[a' - 1]! (rd lt dk a' b' lim wb wp).pi.1[(rd lt dk a' b' lim wb wp).pivot]!)
                    · obtain ⟨mid, ap, d4, hx⟩ : ∃ mid ap d4, partition lt (rd lt dk a' b' lim wb wp).pi.1 a' b' (rd lt dk a' b' lim wb wp).pivot = (mid, ap, d4) := ⟨(partition lt (rd lt dk a' b' lim wb wp).pi.1 a' b' (rd lt dk a' b' lim wb wp).pivot).1, (partition lt (rd lt dk a' b' lim wb wp).pi.1 a' b' (rd lt dk a' b' lim wb wp).pivot).2.1, (partition lt (rd lt dk a' b' lim wb wp).pi.1 a' b' (rd lt dk a' b' lim wb wp).pivot).2.2, rfl⟩
                      obtain ⟨r1, r2, r3, r4, r5, r6, r7⟩ := round_part hO (partition_holds lt) hpv.1 hpv.2 (show b' ≤ (rd lt dk a' b' lim wb wp).pi.1.size by omega) B3 hx
                      have hc22 := partition_c I a' b' (rd lt dk a' b' lim wb wp).pivot (rd lt dk a' b' lim wb wp).pi.1 wc hH6 (s3.trans hds) hpv.1 hpv.2 (by omega) hn
                      rw [hx] at hc22
                      have X : Aside (partition lt (rd lt dk a' b' lim wb wp).pi.1 a' b' (rd lt dk a' b' lim wb wp).pivot = (mid, ap, d4)) := hx
                      clear hx
                      go_upto_if 109 with (go_at_call 88; refine hc22.mono ?_; rintro e w7 ⟨rfl, hH7, hyw7⟩)
                      have hx := X.out
                      have hs4 : d4.size = n := r3.trans (s3.trans hds)
                      have hx7 := ExtM.trans _ _ _ hx6 hyw7
                      clear q0 q1 hH6 hx6 hyw7
                      obtain ⟨p0, p1⟩ := HCC.out _ hx7
                      by_cases h4 : mid - a' < b' - mid
                      · have h4z : (mid : Int) - (a' : Int) < (b' : Int) - (mid : Int) := by omega
                        have hih := IH.out a' mid (rd lt dk a' b' lim wb wp).lim d4 w7 (by omega) hH7 hs4 (by omega) (by omega) (Nat.lt_of_le_of_lt (Nat.le_trans rd_lim_le hlim) hlimit) r4
                        obtain ⟨pL, sL⟩ := pdq_sorts lt hO d4 a' mid (rd lt dk a' b' lim wb wp).lim true true (by omega) (by omega) r4
                        go_wp2_with (go_at_call 60; refine hih.mono ?_; rintro e w8 ⟨rfl, hHw8, hyw8⟩)
                        go_roundg (b' - (mid + 1))
                        case measure => omega
                        case rel =>
                          refine ⟨mid + 1, b', (rd lt dk a' b' lim wb wp).lim, decide (mid - a' ≥ (b' - a') / 8), ap, pdq lt d4 a' mid (rd lt dk a' b' lim wb wp).lim true true, by simp, rfl, rfl, ?_, rfl, by omega, by omega, Nat.le_refl _, by omega, Nat.le_trans rd_lim_le hlim, by rw [pL.1, hs4], (r6 _ pL sL).1, hHw8, ExtM.trans _ _ _ hx7 hyw8, ?_⟩
                          · exact congrArg Value.bool (eighth (by omega) (by omega))
                          · rw [← A.out, pdq_left h12 hl0 hp2 h87 (by rw [hx]; exact ⟨r1, r2⟩) (by rw [hx]; exact h4), hx]
                      · have h4z : ¬ ((mid : Int) - (a' : Int) < (b' : Int) - (mid : Int)) := by omega
                        have hih := IH.out (mid + 1) b' (rd lt dk a' b' lim wb wp).lim d4 w7 (by omega) hH7 hs4 (by omega) (by omega) (Nat.lt_of_le_of_lt (Nat.le_trans rd_lim_le hlim) hlimit) r5
                        rw [show ((mid + 1 : Nat) : Int) = (mid : Int) + 1 by omega] at hih
                        obtain ⟨pL, sL⟩ := pdq_sorts lt hO d4 (mid + 1) b' (rd lt dk a' b' lim wb wp).lim true true (by omega) (by omega) r5
                        go_wp2_with (go_at_call 60; refine hih.mono ?_; rintro e w8 ⟨rfl, hHw8, hyw8⟩)
                        go_roundg (mid - a')
                        case measure => omega
                        case rel =>
                          refine ⟨a', mid, (rd lt dk a' b' lim wb wp).lim, decide (b' - mid ≥ (b' - a') / 8), ap, pdq lt d4 (mid + 1) b' (rd lt dk a' b' lim wb wp).lim true true, rfl, rfl, rfl, ?_, rfl, by omega, by omega, Nat.le_refl _, by omega, Nat.le_trans rd_lim_le hlim, by rw [pL.1, hs4], (r7 _ pL sL).1, hHw8, ExtM.trans _ _ _ hx7 hyw8, ?_⟩
                          · exact congrArg Value.bool (eighth (by omega) (by omega))
                          · rw [← A.out, pdq_right h12 hl0 hp2 h87 (by rw [hx]; exact ⟨r1, r2⟩) (by rw [hx]; exact h4), hx]
                    · have h87' := h87
                      simp only [Bool.and_eq_true, decide_eq_true_eq, Bool.not_eq_true'] at h87'
                      obtain ⟨mid, d4, hx⟩ : ∃ mid d4, partitionEqual lt (rd lt dk a' b' lim wb wp).pi.1 a' b' (rd lt dk a' b' lim wb wp).pivot = (mid, d4) := ⟨(partitionEqual lt (rd lt dk a' b' lim wb wp).pi.1 a' b' (rd lt dk a' b' lim wb wp).pivot).1, (partitionEqual lt (rd lt dk a' b' lim wb wp).pi.1 a' b' (rd lt dk a' b' lim wb wp).pivot).2, rfl⟩
                      obtain ⟨r1, r2, r3, r4, _⟩ := round_eq hO (partitionEqual_holds lt) h87'.1 hpv.1 hpv.2 (show b' ≤ (rd lt dk a' b' lim wb wp).pi.1.size by omega) B3 h87'.2 hx
                      have hc21 := partEq_c I a' b' (rd lt dk a' b' lim wb wp).pivot (rd lt dk a' b' lim wb wp).pi.1 wc hH6 (s3.trans hds) hpv.1 hpv.2 (by omega) hn
                      rw [hx] at hc21
                      have X : Aside (partitionEqual lt (rd lt dk a' b' lim wb wp).pi.1 a' b' (rd lt dk a' b' lim wb wp).pivot = (mid, d4)) := hx
                      clear hx
                      go_wp2_with (go_at_call 87; refine hc21.mono ?_; rintro e w7 ⟨rfl, hHw7, hyw7⟩)
                      go_roundg (b' - mid)
                      case measure => omega
                      case rel =>
                        have hx := X.out
                        exact ⟨mid, b', (rd lt dk a' b' lim wb wp).lim, wb, wp, d4, rfl, rfl, rfl, rfl, rfl, r2, hb', Nat.le_refl _, by omega, Nat.le_trans rd_lim_le hlim, by rw [r3, s3, hds], r4, hHw7, ExtM.trans _ _ _ hx6 hyw7, by rw [← A.out, pdq_eq h12 hl0 hp2 h87 (by rw [hx]; exact ⟨r1, r2⟩), hx]⟩
end Go.Proofs.YtggjceolhbdalaaGreatDoor
