/- sort's partialInsertionSort_func over an abstract less and swap. -/
import Derived.Test.YtggjceolhbdalaaGreatDoorSIf3
import Derived.Sort.WalkA6
import Derived.Sort.WalkC4
namespace Go.Proofs.YtggjceolhbdalaaGreatDoor
open Go.RowKit Go.Plan Go.Sort
variable {α : Type} [Inhabited α]


theorem SIf.less1 {n : Nat} {lt : α → α → Bool} {g : Nat} {lb : Array Value} {sf : Nat} {sb : Array Value} {blk : Nat} {H : Array α → World → Prop} (I : SIf n lt g lb sf sb blk H) (X : Array α) (W : World) (j : Nat) (v : Bool) (hX : X.size = n) (hH : H X W) (h1 : 1 ≤ j) (hj : j < n) (hv : lt X[j]! X[j - 1]! = v) :
    Calls Tryz.prog g (#[.int .i64 (j : Int), .int .i64 ((j : Int) - 1)] ++ lb) W fun e w' => e = .returned (.bool v) ∧ Ext W w' := by
  have h := I.less X W j (j - 1) hX hH hj (by omega)
  rwa [hv, show ((j - 1 : Nat) : Int) = (j : Int) - 1 by omega] at h
theorem SIf.swap1 {n : Nat} {lt : α → α → Bool} {g : Nat} {lb : Array Value} {sf : Nat} {sb : Array Value} {blk : Nat} {H : Array α → World → Prop} (I : SIf n lt g lb sf sb blk H) (X : Array α) (W : World) (j : Nat) (hX : X.size = n) (hH : H X W) (h1 : 1 ≤ j) (hj : j < n) :
    ∃ W', (callFunc sf (#[.int .i64 (j : Int), .int .i64 ((j : Int) - 1)] ++ sb)).run Tryz.prog W = .ok (.value (.tuple #[])) W' ∧ H (swp X j (j - 1)) W' ∧ ExtM (fun k => k = blk) W W' := by
  have h := I.swap X W j (j - 1) hX hH hj (by omega)
  rwa [show ((j - 1 : Nat) : Int) = (j : Int) - 1 by omega] at h


set_option maxRecDepth 1000000 in
set_option maxHeartbeats 16000000 in
theorem partialIns_c {n : Nat} {lt : α → α → Bool} {g : Nat} {lb : Array Value} {sf : Nat} {sb : Array Value} {blk : Nat} {H : Array α → World → Prop} (I : SIf n lt g lb sf sb blk H) (a b : Nat) (d : Array α) (w : World) (hH : H d w) (hs : d.size = n) (hab : a < b) (hb : b ≤ n) (hn : n < 1000000) :
    Calls Tryz.prog 86 #[.agg #[.func (.func g) #[] lb, .func (.func sf) #[] sb], .int .i64 a, .int .i64 b] w fun e w' => e = .returned (.bool (partialInsertionSort lt d a b).2) ∧ H (partialInsertionSort lt d a b).1 w' ∧ ExtM (fun k => k = blk) w w' := by
  have hbl := I.lt' d w hH
  have hx1 : Ext w (w.alloc (.cells #[.func (.func g) #[] lb, .func (.func sf) #[] sb] 126)) := (ExtM.refl w).alloc _
  have hH1 := I.ext d w _ hH hx1
  have eg := I.eg
  go_enter Tryz.func86, Tryz.ntmps86
  go_wp2
  have q0 : (w.alloc (.cells #[.func (.func g) #[] lb, .func (.func sf) #[] sb] 126)).cell? ⟨w.heap.size, 0, none⟩ = some (.func (.func g) #[] lb) := by go_simp
  have q1 : (w.alloc (.cells #[.func (.func g) #[] lb, .func (.func sf) #[] sb] 126)).cell? ⟨w.heap.size, 1, none⟩ = some (.func (.func sf) #[] sb) := by go_simp
  have hN : w.heap.size < (w.alloc (.cells #[.func (.func g) #[] lb, .func (.func sf) #[] sb] 126)).heap.size := by simp
  generalize w.alloc (.cells #[.func (.func g) #[] lb, .func (.func sf) #[] sb] 126) = W1 at *
  have hcc : ∀ u, ExtM (fun k => k = blk) W1 u → u.cell? ⟨w.heap.size, 0, none⟩ = some (.func (.func g) #[] lb) ∧ u.cell? ⟨w.heap.size, 1, none⟩ = some (.func (.func sf) #[] sb) := fun u hu =>
    ⟨(hu.cell (p := ⟨w.heap.size, 0, none⟩) hN (by simp; omega)).trans q0, (hu.cell (p := ⟨w.heap.size, 1, none⟩) hN (by simp; omega)).trans q1⟩
  have HCC := Lib.hid hcc
  clear hcc q0 q1
  go_loopg [7, 8] 5 (fun g1 vi vs wr => ∃ (i s : Nat) (dk : Array α), vi = .int .i64 i ∧ vs = .int .i64 s ∧ s ≤ 5 ∧ 5 - s ≤ g1 ∧ a < i ∧ i ≤ b ∧ dk.size = n ∧ H dk wr ∧ ExtM (fun k => k = blk) W1 wr ∧ Hid (partialIns lt a b (5 - s) i dk = partialIns lt a b 5 (a + 1) d))
  case atStart => exact ⟨a + 1, 0, d, by go_num, rfl, by omega, by omega, by omega, by omega, hs, hH1, ExtM.refl _, rfl⟩
  case round =>
    obtain ⟨i, s, dk, rfl, rfl, hs5, hg1, hai, hib, hsk, hHk, hxk, HO⟩ := hrel
    by_cases hs5' : s < 5
    · have hsz5 : (s : Int) < 5 := by omega
      go_wp2
      go_loopg [7] (b - i) (fun g2 vi wr2 => ∃ (k : Nat), vi = .int .i64 k ∧ i ≤ k ∧ k ≤ b ∧ b - k ≤ g2 ∧ H dk wr2 ∧ ExtM (fun k => k = blk) W1 wr2 ∧ Hid (scanSorted lt dk b k = scanSorted lt dk b i))
      case atStart => exact ⟨i, rfl, Nat.le_refl _, hib, Nat.le_refl _, hHk, hxk, rfl⟩
      case round =>
        clear hHk hxk
        obtain ⟨k, rfl, hik, hkb, hg2, hHk, hxk, HSc⟩ := hrel
        obtain ⟨c0, c1⟩ := HCC.out _ hxk
        by_cases hkb' : k < b
        · have hkz : (k : Int) < (b : Int) := by omega
          cases hlv : lt dk[k]! dk[k - 1]! with
          | false =>
            have hl := I.less1 dk wr k false hsk hHk (by omega) (by omega) hlv
            have HQ := Lib.hid hlv
            clear hlv
            go_wp2_with (
              go_at_fn g
              refine hl.mono ?_
              rintro e w2 ⟨rfl, hyw2⟩
              have hxw2 := ExtM.trans _ _ _ hxk (ext_none hyw2)
              have hHw2 := I.ext _ _ _ hHk hyw2
              obtain ⟨c0w2, c1w2⟩ := HCC.out _ hxw2
              skip)
            go_roundg (b - (k + 1))
            case measure => omega
            case rel => exact ⟨k + 1, by go_num, by omega, by omega, Nat.le_refl _, hHw2, hxw2, (show Hid _ from by rw [← HSc.out, scanSorted_go lt dk b k hkb' HQ.out]; exact rfl)⟩
          | true =>
            have hl := I.less1 dk wr k true hsk hHk (by omega) (by omega) hlv
            have HK : Hid (scanSorted lt dk b i = k) := by show _ = _; rw [← HSc.out, scanSorted_stop lt dk b k (Or.inr hlv)]
            have hkne : ((k : Int) == (b : Int)) = false := beq_eq_false_iff_ne.2 (by omega)
            clear hlv
            by_cases h50 : b - a < 50
            · have h50z : (b : Int) - (a : Int) < 50 := by omega
              go_wp2_with (
                go_at_fn g
                refine hl.mono ?_
                rintro e w2 ⟨rfl, hyw2⟩
                have hxw2 := ExtM.trans _ _ _ hxk (ext_none hyw2)
                have hHw2 := I.ext _ _ _ hHk hyw2
                obtain ⟨c0w2, c1w2⟩ := HCC.out _ hxw2
                skip)
              have hv : partialInsertionSort lt d a b = (dk, false) := by
                unfold partialInsertionSort
                rw [← HO.out, pi_short lt a b s i dk hs5' (by rw [HK.out]; omega) h50]
              rw [hv]
              go_ret
              exact ⟨rfl, hHw2, ExtM.trans _ _ _ (ext_none hx1) hxw2⟩
            · have h50z : ¬ ((b : Int) - (a : Int) < 50) := by omega
              have hX1 : (swp dk k (k - 1)).size = n := by rw [size_swp]; exact hsk
              by_cases hka : k - a ≥ 2
              · have hkaz : (2 : Int) ≤ (k : Int) - (a : Int) := by omega
                go_wp2_with (
                  go_at_fn g
                  refine hl.mono ?_
                  rintro e w2 ⟨rfl, hyw2⟩
                  have hxw2 := ExtM.trans _ _ _ hxk (ext_none hyw2)
                  have hHw2 := I.ext _ _ _ hHk hyw2
                  obtain ⟨c0w2, c1w2⟩ := HCC.out _ hxw2
                  obtain ⟨w3, hsw3, hHw3, hyw3⟩ := I.swap1 dk w2 k hsk hHw2 (by omega) (by omega)
                  have hxw3 := ExtM.trans _ _ _ hxw2 hyw3)
                go_loopg [9] (k - 1) (fun g3 vj wr3 => ∃ (j : Nat) (dj : Array α), vj = .int .i64 j ∧ j ≤ k - 1 ∧ j ≤ g3 ∧ dj.size = n ∧ H dj wr3 ∧ ExtM (fun k => k = blk) W1 wr3 ∧ Hid (shiftDown lt j dj = shiftDown lt (k - 1) (swp dk k (k - 1))))
                case atStart => exact ⟨k - 1, (swp dk k (k - 1)), by congr 1; omega, Nat.le_refl _, Nat.le_refl _, hX1, hHw3, hxw3, rfl⟩
                case round =>
                  clear hsw3 hHw3 hxw3 hyw3 c0w2 c1w2 hHw2 hxw2 hyw2 c0 c1 hHk hxk
                  obtain ⟨j, dj, rfl, hjk, hg3, hsj, hHj, hxj, HDn⟩ := hrel
                  obtain ⟨c0, c1⟩ := HCC.out _ hxj
                  by_cases hj1 : 1 ≤ j
                  · have hj1z : (1 : Int) ≤ (j : Int) := by omega
                    cases hlv2 : lt dj[j]! dj[j - 1]! with
                    | true =>
                      have hl2 := I.less1 dj wr j true hsj hHj hj1 (by omega) hlv2
                      have HQ2 := Lib.hid hlv2
                      clear hlv2
                      go_wp2_with (
                        go_at_fn g
                        refine hl2.mono ?_
                        rintro e w4 ⟨rfl, hyw4⟩
                        have hxw4 := ExtM.trans _ _ _ hxj (ext_none hyw4)
                        have hHw4 := I.ext _ _ _ hHj hyw4
                        obtain ⟨c0w4, c1w4⟩ := HCC.out _ hxw4
                        obtain ⟨w5, hsw5, hHw5, hyw5⟩ := I.swap1 dj w4 j hsj hHw4 (by omega) (by omega))
                      go_roundg (j - 1)
                      case measure => omega
                      case rel => exact ⟨j - 1, swp dj j (j - 1), by congr 1; omega, by omega, Nat.le_refl _, by rw [size_swp]; exact hsj, hHw5, ExtM.trans _ _ _ hxw4 hyw5, (show Hid _ from by rw [← HDn.out, shiftDown_go lt j dj hj1 HQ2.out]; exact rfl)⟩
                    | false =>
                      have hl2 := I.less1 dj wr j false hsj hHj hj1 (by omega) hlv2
                      have HD : Hid (fixDown lt a k (swp dk k (k - 1)) = dj) := by show _ = _; unfold fixDown; rw [if_pos hka, ← HDn.out, shiftDown_stop lt j dj (Or.inr hlv2)]
                      clear hlv2
                      by_cases hbk : b - k ≥ 2
                      · have hbkz : (2 : Int) ≤ (b : Int) - (k : Int) := by omega
                        go_wp2_with (
                          go_at_fn g
                          refine hl2.mono ?_
                          rintro e w4 ⟨rfl, hyw4⟩
                          have hxw4 := ExtM.trans _ _ _ hxj (ext_none hyw4)
                          have hHw4 := I.ext _ _ _ hHj hyw4
                          obtain ⟨c0w4, c1w4⟩ := HCC.out _ hxw4
                          skip)
                        go_loopg [10] (b - (k + 1)) (fun g4 vj wr4 => ∃ (ju : Nat) (du : Array α), vj = .int .i64 ju ∧ k + 1 ≤ ju ∧ ju ≤ b ∧ b - ju ≤ g4 ∧ du.size = n ∧ H du wr4 ∧ ExtM (fun k => k = blk) W1 wr4 ∧ Hid (shiftUp lt b ju du = shiftUp lt b (k + 1) dj))
                        case atStart => exact ⟨k + 1, dj, by go_num, Nat.le_refl _, by omega, Nat.le_refl _, hsj, hHw4, hxw4, rfl⟩
                        case round =>
                          clear hHw4 hxw4 hyw4 c0w4 c1w4 c0 c1 hHj hxj
                          obtain ⟨ju, du, rfl, hkj, hjb, hg4, hsu, hHu, hxu, HU⟩ := hrel
                          obtain ⟨c0, c1⟩ := HCC.out _ hxu
                          by_cases hjb' : ju < b
                          · have hjz : (ju : Int) < (b : Int) := by omega
                            cases hlv3 : lt du[ju]! du[ju - 1]! with
                            | true =>
                              have hl3 := I.less1 du wr ju true hsu hHu (by omega) (by omega) hlv3
                              have HQ3 := Lib.hid hlv3
                              clear hlv3
                              go_wp2_with (
                                go_at_fn g
                                refine hl3.mono ?_
                                rintro e w6 ⟨rfl, hyw6⟩
                                have hxw6 := ExtM.trans _ _ _ hxu (ext_none hyw6)
                                have hHw6 := I.ext _ _ _ hHu hyw6
                                obtain ⟨c0w6, c1w6⟩ := HCC.out _ hxw6
                                obtain ⟨w7, hsw7, hHw7, hyw7⟩ := I.swap1 du w6 ju hsu hHw6 (by omega) (by omega))
                              go_roundg (b - (ju + 1))
                              case measure => omega
                              case rel => exact ⟨ju + 1, swp du ju (ju - 1), by go_num, by omega, by omega, Nat.le_refl _, by rw [size_swp]; exact hsu, hHw7, ExtM.trans _ _ _ hxw6 hyw7, (show Hid _ from by rw [← HU.out, shiftUp_go lt b ju du hjb' HQ3.out]; exact rfl)⟩
                            | false =>
                              have hl3 := I.less1 du wr ju false hsu hHu (by omega) (by omega) hlv3
                              have HQ3 := Lib.hid hlv3
                              clear hlv3
                              go_wp2_with (
                                go_at_fn g
                                refine hl3.mono ?_
                                rintro e w6 ⟨rfl, hyw6⟩
                                have hxw6 := ExtM.trans _ _ _ hxu (ext_none hyw6)
                                have hHw6 := I.ext _ _ _ hHu hyw6
                                obtain ⟨c0w6, c1w6⟩ := HCC.out _ hxw6
                                skip)
                              go_roundg (5 - (s + 1))
                              case measure => omega
                              case rel => exact ⟨k, s + 1, du, rfl, by go_num, by omega, Nat.le_refl _, by omega, by omega, hsu, hHw6, hxw6, (show Hid _ from by rw [← HO.out, pi_go lt a b s i k dk hs5' HK.out (by omega) h50, (HD).out, show fixUp lt b k dj = du from by unfold fixUp; rw [if_pos hbk, ← HU.out, shiftUp_stop lt b ju du (Or.inr HQ3.out)]]; exact rfl)⟩
                          · have hjz : ¬ (ju : Int) < (b : Int) := by omega
                            go_wp2
                            go_roundg (5 - (s + 1))
                            case measure => omega
                            case rel => exact ⟨k, s + 1, du, rfl, by go_num, by omega, Nat.le_refl _, by omega, by omega, hsu, hHu, hxu, (show Hid _ from by rw [← HO.out, pi_go lt a b s i k dk hs5' HK.out (by omega) h50, (HD).out, show fixUp lt b k dj = du from by unfold fixUp; rw [if_pos hbk, ← HU.out, shiftUp_stop lt b ju du (Or.inl hjb')]]; exact rfl)⟩
                      · have hbkz : ¬ (2 : Int) ≤ (b : Int) - (k : Int) := by omega
                        go_wp2_with (
                          go_at_fn g
                          refine hl2.mono ?_
                          rintro e w4 ⟨rfl, hyw4⟩
                          have hxw4 := ExtM.trans _ _ _ hxj (ext_none hyw4)
                          have hHw4 := I.ext _ _ _ hHj hyw4
                          obtain ⟨c0w4, c1w4⟩ := HCC.out _ hxw4
                          skip)
                        go_roundg (5 - (s + 1))
                        case measure => omega
                        case rel => exact ⟨k, s + 1, dj, rfl, by go_num, by omega, Nat.le_refl _, by omega, by omega, hsj, hHw4, hxw4, (show Hid _ from by rw [← HO.out, pi_go lt a b s i k dk hs5' HK.out (by omega) h50, (HD).out, show fixUp lt b k dj = dj from by unfold fixUp; rw [if_neg hbk]]; exact rfl)⟩
                  · have hj1z : ¬ (1 : Int) ≤ (j : Int) := by omega
                    have HD : Hid (fixDown lt a k (swp dk k (k - 1)) = dj) := by show _ = _; unfold fixDown; rw [if_pos hka, ← HDn.out, shiftDown_stop lt j dj (Or.inl (by omega))]
                    by_cases hbk : b - k ≥ 2
                    · have hbkz : (2 : Int) ≤ (b : Int) - (k : Int) := by omega
                      go_wp2
                      go_loopg [10] (b - (k + 1)) (fun g4 vj wr4 => ∃ (ju : Nat) (du : Array α), vj = .int .i64 ju ∧ k + 1 ≤ ju ∧ ju ≤ b ∧ b - ju ≤ g4 ∧ du.size = n ∧ H du wr4 ∧ ExtM (fun k => k = blk) W1 wr4 ∧ Hid (shiftUp lt b ju du = shiftUp lt b (k + 1) dj))
                      case atStart => exact ⟨k + 1, dj, by go_num, Nat.le_refl _, by omega, Nat.le_refl _, hsj, hHj, hxj, rfl⟩
                      case round =>
                        clear c0 c1 hHj hxj
                        obtain ⟨ju, du, rfl, hkj, hjb, hg4, hsu, hHu, hxu, HU⟩ := hrel
                        obtain ⟨c0, c1⟩ := HCC.out _ hxu
                        by_cases hjb' : ju < b
                        · have hjz : (ju : Int) < (b : Int) := by omega
                          cases hlv3 : lt du[ju]! du[ju - 1]! with
                          | true =>
                            have hl3 := I.less1 du wr ju true hsu hHu (by omega) (by omega) hlv3
                            have HQ3 := Lib.hid hlv3
                            clear hlv3
                            go_wp2_with (
                              go_at_fn g
                              refine hl3.mono ?_
                              rintro e w6 ⟨rfl, hyw6⟩
                              have hxw6 := ExtM.trans _ _ _ hxu (ext_none hyw6)
                              have hHw6 := I.ext _ _ _ hHu hyw6
                              obtain ⟨c0w6, c1w6⟩ := HCC.out _ hxw6
                              obtain ⟨w7, hsw7, hHw7, hyw7⟩ := I.swap1 du w6 ju hsu hHw6 (by omega) (by omega))
                            go_roundg (b - (ju + 1))
                            case measure => omega
                            case rel => exact ⟨ju + 1, swp du ju (ju - 1), by go_num, by omega, by omega, Nat.le_refl _, by rw [size_swp]; exact hsu, hHw7, ExtM.trans _ _ _ hxw6 hyw7, (show Hid _ from by rw [← HU.out, shiftUp_go lt b ju du hjb' HQ3.out]; exact rfl)⟩
                          | false =>
                            have hl3 := I.less1 du wr ju false hsu hHu (by omega) (by omega) hlv3
                            have HQ3 := Lib.hid hlv3
                            clear hlv3
                            go_wp2_with (
                              go_at_fn g
                              refine hl3.mono ?_
                              rintro e w6 ⟨rfl, hyw6⟩
                              have hxw6 := ExtM.trans _ _ _ hxu (ext_none hyw6)
                              have hHw6 := I.ext _ _ _ hHu hyw6
                              obtain ⟨c0w6, c1w6⟩ := HCC.out _ hxw6
                              skip)
                            go_roundg (5 - (s + 1))
                            case measure => omega
                            case rel => exact ⟨k, s + 1, du, rfl, by go_num, by omega, Nat.le_refl _, by omega, by omega, hsu, hHw6, hxw6, (show Hid _ from by rw [← HO.out, pi_go lt a b s i k dk hs5' HK.out (by omega) h50, (HD).out, show fixUp lt b k dj = du from by unfold fixUp; rw [if_pos hbk, ← HU.out, shiftUp_stop lt b ju du (Or.inr HQ3.out)]]; exact rfl)⟩
                        · have hjz : ¬ (ju : Int) < (b : Int) := by omega
                          go_wp2
                          go_roundg (5 - (s + 1))
                          case measure => omega
                          case rel => exact ⟨k, s + 1, du, rfl, by go_num, by omega, Nat.le_refl _, by omega, by omega, hsu, hHu, hxu, (show Hid _ from by rw [← HO.out, pi_go lt a b s i k dk hs5' HK.out (by omega) h50, (HD).out, show fixUp lt b k dj = du from by unfold fixUp; rw [if_pos hbk, ← HU.out, shiftUp_stop lt b ju du (Or.inl hjb')]]; exact rfl)⟩
                    · have hbkz : ¬ (2 : Int) ≤ (b : Int) - (k : Int) := by omega
                      go_wp2
                      go_roundg (5 - (s + 1))
                      case measure => omega
                      case rel => exact ⟨k, s + 1, dj, rfl, by go_num, by omega, Nat.le_refl _, by omega, by omega, hsj, hHj, hxj, (show Hid _ from by rw [← HO.out, pi_go lt a b s i k dk hs5' HK.out (by omega) h50, (HD).out, show fixUp lt b k dj = dj from by unfold fixUp; rw [if_neg hbk]]; exact rfl)⟩
              · have hkaz : ¬ (2 : Int) ≤ (k : Int) - (a : Int) := by omega
                have HD : Hid (fixDown lt a k (swp dk k (k - 1)) = swp dk k (k - 1)) := by show _ = _; unfold fixDown; rw [if_neg hka]
                have hbk : b - k ≥ 2 := by omega
                have hbkz : (2 : Int) ≤ (b : Int) - (k : Int) := by omega
                go_wp2_with (
                  go_at_fn g
                  refine hl.mono ?_
                  rintro e w2 ⟨rfl, hyw2⟩
                  have hxw2 := ExtM.trans _ _ _ hxk (ext_none hyw2)
                  have hHw2 := I.ext _ _ _ hHk hyw2
                  obtain ⟨c0w2, c1w2⟩ := HCC.out _ hxw2
                  obtain ⟨w3, hsw3, hHw3, hyw3⟩ := I.swap1 dk w2 k hsk hHw2 (by omega) (by omega)
                  have hxw3 := ExtM.trans _ _ _ hxw2 hyw3)
                go_loopg [10] (b - (k + 1)) (fun g4 vj wr4 => ∃ (ju : Nat) (du : Array α), vj = .int .i64 ju ∧ k + 1 ≤ ju ∧ ju ≤ b ∧ b - ju ≤ g4 ∧ du.size = n ∧ H du wr4 ∧ ExtM (fun k => k = blk) W1 wr4 ∧ Hid (shiftUp lt b ju du = shiftUp lt b (k + 1) (swp dk k (k - 1))))
                case atStart => exact ⟨k + 1, (swp dk k (k - 1)), by go_num, Nat.le_refl _, by omega, Nat.le_refl _, hX1, hHw3, hxw3, rfl⟩
                case round =>
                  clear hsw3 hHw3 hxw3 hyw3 c0w2 c1w2 hHw2 hxw2 hyw2 c0 c1 hHk hxk
                  obtain ⟨ju, du, rfl, hkj, hjb, hg4, hsu, hHu, hxu, HU⟩ := hrel
                  obtain ⟨c0, c1⟩ := HCC.out _ hxu
                  by_cases hjb' : ju < b
                  · have hjz : (ju : Int) < (b : Int) := by omega
                    cases hlv3 : lt du[ju]! du[ju - 1]! with
                    | true =>
                      have hl3 := I.less1 du wr ju true hsu hHu (by omega) (by omega) hlv3
                      have HQ3 := Lib.hid hlv3
                      clear hlv3
                      go_wp2_with (
                        go_at_fn g
                        refine hl3.mono ?_
                        rintro e w6 ⟨rfl, hyw6⟩
                        have hxw6 := ExtM.trans _ _ _ hxu (ext_none hyw6)
                        have hHw6 := I.ext _ _ _ hHu hyw6
                        obtain ⟨c0w6, c1w6⟩ := HCC.out _ hxw6
                        obtain ⟨w7, hsw7, hHw7, hyw7⟩ := I.swap1 du w6 ju hsu hHw6 (by omega) (by omega))
                      go_roundg (b - (ju + 1))
                      case measure => omega
                      case rel => exact ⟨ju + 1, swp du ju (ju - 1), by go_num, by omega, by omega, Nat.le_refl _, by rw [size_swp]; exact hsu, hHw7, ExtM.trans _ _ _ hxw6 hyw7, (show Hid _ from by rw [← HU.out, shiftUp_go lt b ju du hjb' HQ3.out]; exact rfl)⟩
                    | false =>
                      have hl3 := I.less1 du wr ju false hsu hHu (by omega) (by omega) hlv3
                      have HQ3 := Lib.hid hlv3
                      clear hlv3
                      go_wp2_with (
                        go_at_fn g
                        refine hl3.mono ?_
                        rintro e w6 ⟨rfl, hyw6⟩
                        have hxw6 := ExtM.trans _ _ _ hxu (ext_none hyw6)
                        have hHw6 := I.ext _ _ _ hHu hyw6
                        obtain ⟨c0w6, c1w6⟩ := HCC.out _ hxw6
                        skip)
                      go_roundg (5 - (s + 1))
                      case measure => omega
                      case rel => exact ⟨k, s + 1, du, rfl, by go_num, by omega, Nat.le_refl _, by omega, by omega, hsu, hHw6, hxw6, (show Hid _ from by rw [← HO.out, pi_go lt a b s i k dk hs5' HK.out (by omega) h50, (HD).out, show fixUp lt b k (swp dk k (k - 1)) = du from by unfold fixUp; rw [if_pos hbk, ← HU.out, shiftUp_stop lt b ju du (Or.inr HQ3.out)]]; exact rfl)⟩
                  · have hjz : ¬ (ju : Int) < (b : Int) := by omega
                    go_wp2
                    go_roundg (5 - (s + 1))
                    case measure => omega
                    case rel => exact ⟨k, s + 1, du, rfl, by go_num, by omega, Nat.le_refl _, by omega, by omega, hsu, hHu, hxu, (show Hid _ from by rw [← HO.out, pi_go lt a b s i k dk hs5' HK.out (by omega) h50, (HD).out, show fixUp lt b k (swp dk k (k - 1)) = du from by unfold fixUp; rw [if_pos hbk, ← HU.out, shiftUp_stop lt b ju du (Or.inl hjb')]]; exact rfl)⟩
        · obtain rfl : k = b := by omega
          have hkz : ¬ (k : Int) < (k : Int) := by omega
          go_wp2
          have hv : partialInsertionSort lt d a k = (dk, true) := by
            unfold partialInsertionSort
            rw [← HO.out, pi_true lt a k s i dk hs5' (by rw [← HSc.out, scanSorted_stop lt dk k k (Or.inl (by omega))])]
          rw [hv]
          go_ret
          exact ⟨rfl, hHk, ExtM.trans _ _ _ (ext_none hx1) hxk⟩
    · obtain rfl : s = 5 := by omega
      go_wp2
      have hv : partialInsertionSort lt d a b = (dk, false) := by
        unfold partialInsertionSort
        rw [← HO.out, pi_end]
      rw [hv]
      go_ret
      exact ⟨rfl, hHk, ExtM.trans _ _ _ (ext_none hx1) hxk⟩
end Go.Proofs.YtggjceolhbdalaaGreatDoor
