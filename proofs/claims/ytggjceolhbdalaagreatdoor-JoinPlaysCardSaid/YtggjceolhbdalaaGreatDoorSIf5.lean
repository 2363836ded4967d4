/- sort's partitionEqual_func and partition_func over an abstract less and swap. -/
import Derived.Test.YtggjceolhbdalaaGreatDoorSIf3
import Derived.Sort.WalkC4
namespace Go.Proofs.YtggjceolhbdalaaGreatDoor
open Go.RowKit Go.Plan Go.Sort
variable {α : Type} [Inhabited α]



set_option maxRecDepth 1000000 in
set_option maxHeartbeats 16000000 in
theorem partEq_c {n : Nat} {lt : α → α → Bool} {g : Nat} {lb : Array Value} {sf : Nat} {sb : Array Value} {blk : Nat} {H : Array α → World → Prop} (I : SIf n lt g lb sf sb blk H) (a b pivot : Nat) (d : Array α) (w : World) (hH : H d w) (hs : d.size = n) (hap : a ≤ pivot) (hpb : pivot < b) (hb : b ≤ n) (hn : n < 1000000) :
    Calls Tryz.prog 87 #[.agg #[.func (.func g) #[] lb, .func (.func sf) #[] sb], .int .i64 a, .int .i64 b, .int .i64 pivot] w fun e w' => e = .returned (.int .i64 (partitionEqual lt d a b pivot).1) ∧ H (partitionEqual lt d a b pivot).2 w' ∧ ExtM (fun k => k = blk) w w' := by
  have hbl := I.lt' d w hH
  have hx1 : Ext w (w.alloc (.cells #[.func (.func g) #[] lb, .func (.func sf) #[] sb] 126)) := (ExtM.refl w).alloc _
  have hH1 := I.ext d w _ hH hx1
  have eg := I.eg
  have hN : w.heap.size < (w.alloc (.cells #[.func (.func g) #[] lb, .func (.func sf) #[] sb] 126)).heap.size := by simp
  have HCC : Hid (∀ u, ExtM (fun k => k = blk) (w.alloc (.cells #[.func (.func g) #[] lb, .func (.func sf) #[] sb] 126)) u → u.cell? ⟨w.heap.size, 0, none⟩ = some (.func (.func g) #[] lb) ∧ u.cell? ⟨w.heap.size, 1, none⟩ = some (.func (.func sf) #[] sb)) := Lib.hid fun u hu =>
    ⟨(hu.cell (p := ⟨w.heap.size, 0, none⟩) hN (by simp; omega)).trans (by go_simp), (hu.cell (p := ⟨w.heap.size, 1, none⟩) hN (by simp; omega)).trans (by go_simp)⟩
  clear hN
  obtain ⟨c0, c1⟩ := HCC.out _ (ExtM.refl _)
  obtain ⟨w2, hsw0, hHw2, hxw2⟩ := I.swap d _ a pivot hs hH1 (by omega) (by omega)
  go_enter Tryz.func87, Tryz.ntmps87
  go_wp2
  clear hsw0 c0 c1
  go_loopg [9, 10] b (fun gk vi vj wr => ∃ (i j : Nat) (dk : Array α), vi = .int .i64 i ∧ vj = .int .i64 j ∧ a < i ∧ i ≤ j + 1 ∧ j < b ∧ j + 1 - i ≤ gk ∧ dk.size = n ∧ H dk wr ∧ ExtM (fun k => k = blk) (w.alloc (.cells #[.func (.func g) #[] lb, .func (.func sf) #[] sb] 126)) wr ∧ Hid (partEqLoop lt a i j dk = partEqLoop lt a (a + 1) (b - 1) (swp d a pivot)))
  case atStart => exact ⟨a + 1, b - 1, swp d a pivot, by go_num, by go_num, by omega, by omega, by omega, by omega, by rw [size_swp]; exact hs, hHw2, hxw2, rfl⟩
  case round =>
    clear hHw2 hxw2 hH1
    obtain ⟨i, j, dk, rfl, rfl, hai, hij, hjb, hgk, hsk, hHk, hxk, HE⟩ := hrel
    obtain ⟨c0, c1⟩ := HCC.out _ hxk
    go_wp2
    go_loopg [9] (j + 1) (fun g2 vi w1 => ∃ (i' : Nat), vi = .int .i64 i' ∧ i ≤ i' ∧ i' ≤ j + 1 ∧ j + 1 - i' ≤ g2 ∧ H dk w1 ∧ ExtM (fun k => k = blk) (w.alloc (.cells #[.func (.func g) #[] lb, .func (.func sf) #[] sb] 126)) w1 ∧ Hid (scanUp (fun x => !lt dk[a]! x) dk j i' = scanUp (fun x => !lt dk[a]! x) dk j i))
    case atStart => exact ⟨i, rfl, Nat.le_refl _, hij, by omega, hHk, hxk, rfl⟩
    case round =>
      clear hHk hxk c0 c1
      obtain ⟨i', rfl, hii, hij', hgi, hHi, hxi, hsc⟩ := hrel
      obtain ⟨c0, c1⟩ := HCC.out _ hxi
      by_cases hle : i' ≤ j
      · have hl := I.less dk wr a i' hsk hHi (by omega) (by omega)
        cases hlv : lt dk[a]! dk[i']! with
        | false =>
          rw [hlv] at hl
          have HQ := Lib.hid hlv
          clear hlv
          go_wp2_with (
            go_at_fn g
            refine hl.mono ?_
            rintro e w3 ⟨rfl, hyw3⟩
            have hxw3 := ExtM.trans _ _ _ hxi (ext_none hyw3)
            have hHw3 := I.ext _ _ _ hHi hyw3
            obtain ⟨c0w3, c1w3⟩ := HCC.out _ hxw3
            skip)
          go_roundg (j + 1 - (i' + 1))
          case measure => omega
          case rel => exact ⟨i' + 1, by go_num, by omega, by omega, Nat.le_refl _, hHw3, hxw3, (scanUp_go (fun x => !lt dk[a]! x) dk j i' hle (by simp [HQ.out])).symm.trans hsc.out⟩
        | true =>
          rw [hlv] at hl
          have hi2 : Hid (i' = scanUp (fun x => !lt dk[a]! x) dk j i) := (scanUp_end (fun x => !lt dk[a]! x) dk j i' (Or.inr (by simp [hlv]))).symm.trans hsc.out
          clear hlv hsc
          go_wp2_with (
            go_at_fn g
            refine hl.mono ?_
            rintro e w3 ⟨rfl, hyw3⟩
            have hxw3 := ExtM.trans _ _ _ hxi (ext_none hyw3)
            have hHw3 := I.ext _ _ _ hHi hyw3
            obtain ⟨c0w3, c1w3⟩ := HCC.out _ hxw3
            skip)
          go_loopg [10] (j) (fun g3 vj w2 => ∃ (j' : Nat), vj = .int .i64 j' ∧ j' ≤ j ∧ i' ≤ j' + 1 ∧ j' ≤ g3 ∧ H dk w2 ∧ ExtM (fun k => k = blk) (w.alloc (.cells #[.func (.func g) #[] lb, .func (.func sf) #[] sb] 126)) w2 ∧ Hid (scanDown (fun x => lt dk[a]! x) dk i' j' = scanDown (fun x => lt dk[a]! x) dk i' j))
          case atStart => exact ⟨j, rfl, Nat.le_refl _, by omega, Nat.le_refl _, hHw3, hxw3, rfl⟩
          case round =>
            clear hHw3 hxw3 hyw3 c0w3 c1w3 hl hHi hxi c0 c1
            obtain ⟨j', rfl, hjj, hij2, hgj, hHj, hxj, hsd⟩ := hrel
            obtain ⟨d0, d1⟩ := HCC.out _ hxj
            by_cases hle2 : i' ≤ j'
            ·
              have hl := I.less dk wr a j' hsk hHj (by omega) (by omega)
              cases hlv2 : lt dk[a]! dk[j']! with
              | true =>
                rw [hlv2] at hl
                have HQ2 := Lib.hid hlv2
                clear hlv2
                go_wp2_with (
                  go_at_fn g
                  refine hl.mono ?_
                  rintro e w4 ⟨rfl, hyw4⟩
                  have hxw4 := ExtM.trans _ _ _ hxj (ext_none hyw4)
                  have hHw4 := I.ext _ _ _ hHj hyw4
                  obtain ⟨c0w4, c1w4⟩ := HCC.out _ hxw4
                  skip)
                go_roundg (j' - 1)
                case measure => omega
                case rel => exact ⟨j' - 1, by go_num, by omega, by omega, Nat.le_refl _, hHw4, hxw4, (scanDown_go (fun x => lt dk[a]! x) dk i' j' hle2 (by omega) HQ2.out).symm.trans hsd.out⟩
              | false =>
                rw [hlv2] at hl
                have hj2 : Hid (j' = scanDown (fun x => lt dk[a]! x) dk i' j) := (scanDown_end (fun x => lt dk[a]! x) dk i' j' (Or.inr hlv2)).symm.trans hsd.out
                have hlt3 := scans_lt lt a i j dk (by omega) hi2.out hj2.out hle2
                clear hlv2
                go_wp2_with (
                  go_at_fn g
                  refine hl.mono ?_
                  rintro e w4 ⟨rfl, hyw4⟩
                  have hxw4 := ExtM.trans _ _ _ hxj (ext_none hyw4)
                  have hHw4 := I.ext _ _ _ hHj hyw4
                  obtain ⟨c0w4, c1w4⟩ := HCC.out _ hxw4
                  obtain ⟨w5, hsw5, hHw5, hyw5⟩ := I.swap dk w4 i' j' hsk hHw4 (by omega) (by omega))
                go_roundg (j' - 1 + 1 - (i' + 1))
                case measure => omega
                case rel => exact ⟨i' + 1, j' - 1, swp dk i' j', by go_num, by go_num, by omega, by omega, by omega, Nat.le_refl _, by rw [size_swp]; exact hsk, hHw5, ExtM.trans _ _ _ hxw4 hyw5, (show Hid _ from by rw [← HE.out]; exact (partEq_go lt a i j dk hi2.out hj2.out (by omega)).symm)⟩
            · have hj2 : Hid (j' = scanDown (fun x => lt dk[a]! x) dk i' j) := (scanDown_end (fun x => lt dk[a]! x) dk i' j' (Or.inl hle2)).symm.trans hsd.out
              clear hsd
              go_wp2
              go_ret
              have e := partEq_break lt a i j dk hi2.out hj2.out (by omega)
              unfold partitionEqual
              rw [← HE.out, e]
              exact ⟨rfl, hHj, ExtM.trans _ _ _ (ext_none hx1) hxj⟩
      · have hi2 : Hid (i' = scanUp (fun x => !lt dk[a]! x) dk j i) := (scanUp_end (fun x => !lt dk[a]! x) dk j i' (Or.inl hle)).symm.trans hsc.out
        clear hsc
        go_wp2
        go_loopg [10] (j) (fun g3 vj w2 => ∃ (j' : Nat), vj = .int .i64 j' ∧ j' ≤ j ∧ i' ≤ j' + 1 ∧ j' ≤ g3 ∧ H dk w2 ∧ ExtM (fun k => k = blk) (w.alloc (.cells #[.func (.func g) #[] lb, .func (.func sf) #[] sb] 126)) w2 ∧ Hid (scanDown (fun x => lt dk[a]! x) dk i' j' = scanDown (fun x => lt dk[a]! x) dk i' j))
        case atStart => exact ⟨j, rfl, Nat.le_refl _, by omega, Nat.le_refl _, hHi, hxi, rfl⟩
        case round =>
          clear hHi hxi c0 c1
          obtain ⟨j', rfl, hjj, hij2, hgj, hHj, hxj, hsd⟩ := hrel
          obtain ⟨d0, d1⟩ := HCC.out _ hxj
          by_cases hle2 : i' ≤ j'
          ·
            exfalso; omega
          · have hj2 : Hid (j' = scanDown (fun x => lt dk[a]! x) dk i' j) := (scanDown_end (fun x => lt dk[a]! x) dk i' j' (Or.inl hle2)).symm.trans hsd.out
            clear hsd
            go_wp2
            go_ret
            have e := partEq_break lt a i j dk hi2.out hj2.out (by omega)
            unfold partitionEqual
            rw [← HE.out, e]
            exact ⟨rfl, hHj, ExtM.trans _ _ _ (ext_none hx1) hxj⟩


set_option maxRecDepth 1000000 in
set_option maxHeartbeats 32000000 in
theorem partition_c {n : Nat} {lt : α → α → Bool} {g : Nat} {lb : Array Value} {sf : Nat} {sb : Array Value} {blk : Nat} {H : Array α → World → Prop} (I : SIf n lt g lb sf sb blk H) (a b pivot : Nat) (d : Array α) (w : World) (hH : H d w) (hs : d.size = n) (hap : a ≤ pivot) (hpb : pivot < b) (hb : b ≤ n) (hn : n < 1000000) :
    Calls Tryz.prog 88 #[.agg #[.func (.func g) #[] lb, .func (.func sf) #[] sb], .int .i64 a, .int .i64 b, .int .i64 pivot] w fun e w' => e = .returned (.tuple #[.int .i64 (partition lt d a b pivot).1, .bool (partition lt d a b pivot).2.1]) ∧ H (partition lt d a b pivot).2.2 w' ∧ ExtM (fun k => k = blk) w w' := by
  have hbl := I.lt' d w hH
  have hx1 : Ext w (w.alloc (.cells #[.func (.func g) #[] lb, .func (.func sf) #[] sb] 126)) := (ExtM.refl w).alloc _
  have hH1 := I.ext d w _ hH hx1
  have eg := I.eg
  have hN : w.heap.size < (w.alloc (.cells #[.func (.func g) #[] lb, .func (.func sf) #[] sb] 126)).heap.size := by simp
  have HCC : Hid (∀ u, ExtM (fun k => k = blk) (w.alloc (.cells #[.func (.func g) #[] lb, .func (.func sf) #[] sb] 126)) u → u.cell? ⟨w.heap.size, 0, none⟩ = some (.func (.func g) #[] lb) ∧ u.cell? ⟨w.heap.size, 1, none⟩ = some (.func (.func sf) #[] sb)) := Lib.hid fun u hu =>
    ⟨(hu.cell (p := ⟨w.heap.size, 0, none⟩) hN (by simp; omega)).trans (by go_simp), (hu.cell (p := ⟨w.heap.size, 1, none⟩) hN (by simp; omega)).trans (by go_simp)⟩
  clear hN
  obtain ⟨c0, c1⟩ := HCC.out _ (ExtM.refl _)
  obtain ⟨w2, hsw0, hHk, hxk⟩ := I.swap d _ a pivot hs hH1 (by omega) (by omega)
  obtain ⟨i, hi⟩ : ∃ i : Nat, i = a + 1 := ⟨_, rfl⟩
  obtain ⟨j, hj⟩ : ∃ j : Nat, j = b - 1 := ⟨_, rfl⟩
  obtain ⟨dk, hdk⟩ : ∃ dk : Array α, dk = swp d a pivot := ⟨_, rfl⟩
  have hsk : dk.size = n := by rw [hdk, size_swp]; exact hs
  have hai : a < i := by omega
  have hij : i ≤ j + 1 := by omega
  have hjb : j < b := by omega
  have Hi := Lib.hid hi
  have Hj := Lib.hid hj
  have Hdk := Lib.hid hdk
  rw [← hdk] at hHk
  clear hi hj hdk
  go_enter Tryz.func88, Tryz.ntmps88
  go_wp2
  clear hsw0 c0 c1 hH1
  obtain ⟨c0, c1⟩ := HCC.out _ hxk
  rw [show ((a : Int) + 1) = (i : Int) by have := Hi.out; omega, show ((b : Int) - 1) = (j : Int) by have := Hj.out; omega]
  go_loopg [10] (j + 1) (fun g2 vi w1 => ∃ (i' : Nat), vi = .int .i64 i' ∧ i ≤ i' ∧ i' ≤ j + 1 ∧ j + 1 - i' ≤ g2 ∧ H dk w1 ∧ ExtM (fun k => k = blk) (w.alloc (.cells #[.func (.func g) #[] lb, .func (.func sf) #[] sb] 126)) w1 ∧ Hid (scanUp (fun x => lt x dk[a]!) dk j i' = scanUp (fun x => lt x dk[a]!) dk j i))
  case atStart => exact ⟨i, rfl, Nat.le_refl _, hij, by omega, hHk, hxk, rfl⟩
  case round =>
    clear hHk hxk c0 c1
    obtain ⟨i', rfl, hii, hij', hgi, hHi, hxi, hsc⟩ := hrel
    obtain ⟨c0, c1⟩ := HCC.out _ hxi
    by_cases hle : i' ≤ j
    · have hl := I.less dk wr i' a hsk hHi (by omega) (by omega)
      cases hlv : lt dk[i']! dk[a]! with
      | true =>
        rw [hlv] at hl
        have HQ := Lib.hid hlv
        clear hlv
        go_wp2_with (
          go_at_fn g
          refine hl.mono ?_
          rintro e w3 ⟨rfl, hyw3⟩
          have hxw3 := ExtM.trans _ _ _ hxi (ext_none hyw3)
          have hHw3 := I.ext _ _ _ hHi hyw3
          obtain ⟨c0w3, c1w3⟩ := HCC.out _ hxw3
          skip)
        go_roundg (j + 1 - (i' + 1))
        case measure => omega
        case rel => exact ⟨i' + 1, by go_num, by omega, by omega, Nat.le_refl _, hHw3, hxw3, (scanUp_go (fun x => lt x dk[a]!) dk j i' hle HQ.out).symm.trans hsc.out⟩
      | false =>
        rw [hlv] at hl
        have hi2 : Hid (i' = scanUp (fun x => lt x dk[a]!) dk j i) := (scanUp_end (fun x => lt x dk[a]!) dk j i' (Or.inr hlv)).symm.trans hsc.out
        clear hlv hsc
        go_wp2_with (
          go_at_fn g
          refine hl.mono ?_
          rintro e w3 ⟨rfl, hyw3⟩
          have hxw3 := ExtM.trans _ _ _ hxi (ext_none hyw3)
          have hHw3 := I.ext _ _ _ hHi hyw3
          obtain ⟨c0w3, c1w3⟩ := HCC.out _ hxw3
          skip)
        go_loopg [11] (j) (fun g3 vj w2 => ∃ (j' : Nat), vj = .int .i64 j' ∧ j' ≤ j ∧ i' ≤ j' + 1 ∧ j' ≤ g3 ∧ H dk w2 ∧ ExtM (fun k => k = blk) (w.alloc (.cells #[.func (.func g) #[] lb, .func (.func sf) #[] sb] 126)) w2 ∧ Hid (scanDown (fun x => !lt x dk[a]!) dk i' j' = scanDown (fun x => !lt x dk[a]!) dk i' j))
        case atStart => exact ⟨j, rfl, Nat.le_refl _, by omega, Nat.le_refl _, hHw3, hxw3, rfl⟩
        case round =>
          clear hHw3 hxw3 hyw3 c0w3 c1w3 hl hHi hxi c0 c1
          obtain ⟨j', rfl, hjj, hij2, hgj, hHj, hxj, hsd⟩ := hrel
          obtain ⟨d0, d1⟩ := HCC.out _ hxj
          by_cases hle2 : i' ≤ j'
          ·
            have hl := I.less dk wr j' a hsk hHj (by omega) (by omega)
            cases hlv2 : lt dk[j']! dk[a]! with
            | false =>
              rw [hlv2] at hl
              have HQ2 := Lib.hid hlv2
              clear hlv2
              go_wp2_with (
                go_at_fn g
                refine hl.mono ?_
                rintro e w4 ⟨rfl, hyw4⟩
                have hxw4 := ExtM.trans _ _ _ hxj (ext_none hyw4)
                have hHw4 := I.ext _ _ _ hHj hyw4
                obtain ⟨c0w4, c1w4⟩ := HCC.out _ hxw4
                skip)
              go_roundg (j' - 1)
              case measure => omega
              case rel => exact ⟨j' - 1, by go_num, by omega, by omega, Nat.le_refl _, hHw4, hxw4, (scanDown_go (fun x => !lt x dk[a]!) dk i' j' hle2 (by omega) (by simp [HQ2.out])).symm.trans hsd.out⟩
            | true =>
              rw [hlv2] at hl
              have hj2 : Hid (j' = scanDown (fun x => !lt x dk[a]!) dk i' j) := (scanDown_end (fun x => !lt x dk[a]!) dk i' j' (Or.inr (by simp [hlv2]))).symm.trans hsd.out
              have hlt3 := part_scans_lt lt a i j dk (by omega) hi2.out hj2.out hle2
              clear hlv2
              go_wp2_with (
                go_at_fn g
                refine hl.mono ?_
                rintro e w4 ⟨rfl, hyw4⟩
                have hxw4 := ExtM.trans _ _ _ hxj (ext_none hyw4)
                have hHw4 := I.ext _ _ _ hHj hyw4
                obtain ⟨c0w4, c1w4⟩ := HCC.out _ hxw4
                obtain ⟨w5, hsw5, hHw5, hyw5⟩ := I.swap dk w4 i' j' hsk hHw4 (by omega) (by omega))
              rw [decide_eq_false (show ¬ j' < i' by omega)]
              have PF : Hid (partition lt d a b pivot = ((partLoop lt a (i' + 1) (j' - 1) (swp dk i' j')).1, false, swp (partLoop lt a (i' + 1) (j' - 1) (swp dk i' j')).2 (partLoop lt a (i' + 1) (j' - 1) (swp dk i' j')).1 a)) :=
                part_first_go lt d a b pivot Hi.out Hj.out Hdk.out hi2.out hj2.out (by omega)
              have hxw5 := ExtM.trans _ _ _ hxw4 hyw5
              have hs5 : (swp dk i' j').size = n := by rw [size_swp]; exact hsk
              obtain ⟨I0, hI0⟩ : ∃ I0 : Nat, I0 = i' + 1 := ⟨_, rfl⟩
              obtain ⟨J0, hJ0⟩ : ∃ J0 : Nat, J0 = j' - 1 := ⟨_, rfl⟩
              generalize swp dk i' j' = D0 at PF hHw5 hs5
              rw [← hI0, ← hJ0] at PF
              have HI0 := Lib.hid hI0
              have HJ0 := Lib.hid hJ0
              have ha0 : a < I0 := by omega
              have hb0 : I0 ≤ J0 + 1 := by omega
              have hd0 : J0 < b := by omega
              clear hI0 hJ0
              go_loopg [10, 11] b (fun gk vi vj wr => ∃ (i j : Nat) (dk : Array α), vi = .int .i64 i ∧ vj = .int .i64 j ∧ a < i ∧ i ≤ j + 1 ∧ j < b ∧ j + 1 - i ≤ gk ∧ dk.size = n ∧ H dk wr ∧ ExtM (fun k => k = blk) (w.alloc (.cells #[.func (.func g) #[] lb, .func (.func sf) #[] sb] 126)) wr ∧ Hid (partLoop lt a i j dk = partLoop lt a I0 J0 D0))
              case atStart => exact ⟨I0, J0, D0, by rw [HI0.out]; go_num, by have := HJ0.out; go_num, ha0, hb0, hd0, by omega, hs5, hHw5, hxw5, rfl⟩
              case round =>
                clear hHw5 hxw5 hyw5 hsw5 hl c0w4 c1w4 hHw4 hxw4 hyw4 hHj hxj d0 d1 hi2 hj2 hlt3 hle2 hij2 hjj hgj hij' hii hgi hsk hai hij hjb Hi Hj Hdk HI0 HJ0
                obtain ⟨i, j, dk, rfl, rfl, hai, hij, hjb, hgk, hsk, hHk, hxk, AE⟩ := hrel
                obtain ⟨c0, c1⟩ := HCC.out _ hxk
                go_wp2
                go_loopg [10] (j + 1) (fun g2 vi w1 => ∃ (i' : Nat), vi = .int .i64 i' ∧ i ≤ i' ∧ i' ≤ j + 1 ∧ j + 1 - i' ≤ g2 ∧ H dk w1 ∧ ExtM (fun k => k = blk) (w.alloc (.cells #[.func (.func g) #[] lb, .func (.func sf) #[] sb] 126)) w1 ∧ Hid (scanUp (fun x => lt x dk[a]!) dk j i' = scanUp (fun x => lt x dk[a]!) dk j i))
                case atStart => exact ⟨i, rfl, Nat.le_refl _, hij, by omega, hHk, hxk, rfl⟩
                case round =>
                  clear hHk hxk c0 c1
                  obtain ⟨i', rfl, hii, hij', hgi, hHi, hxi, hsc⟩ := hrel
                  obtain ⟨c0, c1⟩ := HCC.out _ hxi
                  by_cases hle : i' ≤ j
                  · have hl := I.less dk wr i' a hsk hHi (by omega) (by omega)
                    cases hlv : lt dk[i']! dk[a]! with
                    | true =>
                      rw [hlv] at hl
                      have HQ := Lib.hid hlv
                      clear hlv
                      go_wp2_with (
                        go_at_fn g
                        refine hl.mono ?_
                        rintro e w3 ⟨rfl, hyw3⟩
                        have hxw3 := ExtM.trans _ _ _ hxi (ext_none hyw3)
                        have hHw3 := I.ext _ _ _ hHi hyw3
                        obtain ⟨c0w3, c1w3⟩ := HCC.out _ hxw3
                        skip)
                      go_roundg (j + 1 - (i' + 1))
                      case measure => omega
                      case rel => exact ⟨i' + 1, by go_num, by omega, by omega, Nat.le_refl _, hHw3, hxw3, (scanUp_go (fun x => lt x dk[a]!) dk j i' hle HQ.out).symm.trans hsc.out⟩
                    | false =>
                      rw [hlv] at hl
                      have hi2 : Hid (i' = scanUp (fun x => lt x dk[a]!) dk j i) := (scanUp_end (fun x => lt x dk[a]!) dk j i' (Or.inr hlv)).symm.trans hsc.out
                      clear hlv hsc
                      go_wp2_with (
                        go_at_fn g
                        refine hl.mono ?_
                        rintro e w3 ⟨rfl, hyw3⟩
                        have hxw3 := ExtM.trans _ _ _ hxi (ext_none hyw3)
                        have hHw3 := I.ext _ _ _ hHi hyw3
                        obtain ⟨c0w3, c1w3⟩ := HCC.out _ hxw3
                        skip)
                      go_loopg [11] (j) (fun g3 vj w2 => ∃ (j' : Nat), vj = .int .i64 j' ∧ j' ≤ j ∧ i' ≤ j' + 1 ∧ j' ≤ g3 ∧ H dk w2 ∧ ExtM (fun k => k = blk) (w.alloc (.cells #[.func (.func g) #[] lb, .func (.func sf) #[] sb] 126)) w2 ∧ Hid (scanDown (fun x => !lt x dk[a]!) dk i' j' = scanDown (fun x => !lt x dk[a]!) dk i' j))
                      case atStart => exact ⟨j, rfl, Nat.le_refl _, by omega, Nat.le_refl _, hHw3, hxw3, rfl⟩
                      case round =>
                        clear hHw3 hxw3 hyw3 c0w3 c1w3 hl hHi hxi c0 c1
                        obtain ⟨j', rfl, hjj, hij2, hgj, hHj, hxj, hsd⟩ := hrel
                        obtain ⟨d0, d1⟩ := HCC.out _ hxj
                        by_cases hle2 : i' ≤ j'
                        ·
                          have hl := I.less dk wr j' a hsk hHj (by omega) (by omega)
                          cases hlv2 : lt dk[j']! dk[a]! with
                          | false =>
                            rw [hlv2] at hl
                            have HQ2 := Lib.hid hlv2
                            clear hlv2
                            go_wp2_with (
                              go_at_fn g
                              refine hl.mono ?_
                              rintro e w4 ⟨rfl, hyw4⟩
                              have hxw4 := ExtM.trans _ _ _ hxj (ext_none hyw4)
                              have hHw4 := I.ext _ _ _ hHj hyw4
                              obtain ⟨c0w4, c1w4⟩ := HCC.out _ hxw4
                              skip)
                            go_roundg (j' - 1)
                            case measure => omega
                            case rel => exact ⟨j' - 1, by go_num, by omega, by omega, Nat.le_refl _, hHw4, hxw4, (scanDown_go (fun x => !lt x dk[a]!) dk i' j' hle2 (by omega) (by simp [HQ2.out])).symm.trans hsd.out⟩
                          | true =>
                            rw [hlv2] at hl
                            have hj2 : Hid (j' = scanDown (fun x => !lt x dk[a]!) dk i' j) := (scanDown_end (fun x => !lt x dk[a]!) dk i' j' (Or.inr (by simp [hlv2]))).symm.trans hsd.out
                            have hlt3 := part_scans_lt lt a i j dk (by omega) hi2.out hj2.out hle2
                            clear hlv2
                            go_wp2_with (
                              go_at_fn g
                              refine hl.mono ?_
                              rintro e w4 ⟨rfl, hyw4⟩
                              have hxw4 := ExtM.trans _ _ _ hxj (ext_none hyw4)
                              have hHw4 := I.ext _ _ _ hHj hyw4
                              obtain ⟨c0w4, c1w4⟩ := HCC.out _ hxw4
                              obtain ⟨w5, hsw5, hHw5, hyw5⟩ := I.swap dk w4 i' j' hsk hHw4 (by omega) (by omega))
                            go_roundg (j' - 1 + 1 - (i' + 1))
                            case measure => omega
                            case rel => exact ⟨i' + 1, j' - 1, swp dk i' j', by go_num, by go_num, by omega, by omega, by omega, Nat.le_refl _, by rw [size_swp]; exact hsk, hHw5, ExtM.trans _ _ _ hxw4 hyw5, (show Hid _ from by rw [← AE.out]; exact (part_go lt a i j dk hi2.out hj2.out (by omega)).symm)⟩
                        · have hj2 : Hid (j' = scanDown (fun x => !lt x dk[a]!) dk i' j) := (scanDown_end (fun x => !lt x dk[a]!) dk i' j' (Or.inl hle2)).symm.trans hsd.out
                          clear hsd
                          obtain ⟨w5, hsw5, hHw5, hyw5⟩ := I.swap dk wr j' a hsk hHj (by omega) (by omega)
                          go_wp2
                          go_ret2
                          rw [PF.out, ← AE.out, part_break lt a i j dk hi2.out hj2.out (by omega)]
                          exact ⟨rfl, hHw5, ExtM.trans _ _ _ (ext_none hx1) (ExtM.trans _ _ _ hxj hyw5)⟩
                  · have hi2 : Hid (i' = scanUp (fun x => lt x dk[a]!) dk j i) := (scanUp_end (fun x => lt x dk[a]!) dk j i' (Or.inl hle)).symm.trans hsc.out
                    clear hsc
                    go_wp2
                    go_loopg [11] (j) (fun g3 vj w2 => ∃ (j' : Nat), vj = .int .i64 j' ∧ j' ≤ j ∧ i' ≤ j' + 1 ∧ j' ≤ g3 ∧ H dk w2 ∧ ExtM (fun k => k = blk) (w.alloc (.cells #[.func (.func g) #[] lb, .func (.func sf) #[] sb] 126)) w2 ∧ Hid (scanDown (fun x => !lt x dk[a]!) dk i' j' = scanDown (fun x => !lt x dk[a]!) dk i' j))
                    case atStart => exact ⟨j, rfl, Nat.le_refl _, by omega, Nat.le_refl _, hHi, hxi, rfl⟩
                    case round =>
                      clear hHi hxi c0 c1
                      obtain ⟨j', rfl, hjj, hij2, hgj, hHj, hxj, hsd⟩ := hrel
                      obtain ⟨d0, d1⟩ := HCC.out _ hxj
                      by_cases hle2 : i' ≤ j'
                      ·
                        exfalso; omega
                      · have hj2 : Hid (j' = scanDown (fun x => !lt x dk[a]!) dk i' j) := (scanDown_end (fun x => !lt x dk[a]!) dk i' j' (Or.inl hle2)).symm.trans hsd.out
                        clear hsd
                        obtain ⟨w5, hsw5, hHw5, hyw5⟩ := I.swap dk wr j' a hsk hHj (by omega) (by omega)
                        go_wp2
                        go_ret2
                        rw [PF.out, ← AE.out, part_break lt a i j dk hi2.out hj2.out (by omega)]
                        exact ⟨rfl, hHw5, ExtM.trans _ _ _ (ext_none hx1) (ExtM.trans _ _ _ hxj hyw5)⟩
          · have hj2 : Hid (j' = scanDown (fun x => !lt x dk[a]!) dk i' j) := (scanDown_end (fun x => !lt x dk[a]!) dk i' j' (Or.inl hle2)).symm.trans hsd.out
            clear hsd
            obtain ⟨w5, hsw5, hHw5, hyw5⟩ := I.swap dk wr j' a hsk hHj (by omega) (by omega)
            go_wp2
            go_ret2
            rw [part_first_break lt d a b pivot Hi.out Hj.out Hdk.out hi2.out hj2.out (by omega)]
            exact ⟨rfl, hHw5, ExtM.trans _ _ _ (ext_none hx1) (ExtM.trans _ _ _ hxj hyw5)⟩
    · have hi2 : Hid (i' = scanUp (fun x => lt x dk[a]!) dk j i) := (scanUp_end (fun x => lt x dk[a]!) dk j i' (Or.inl hle)).symm.trans hsc.out
      clear hsc
      go_wp2
      go_loopg [11] (j) (fun g3 vj w2 => ∃ (j' : Nat), vj = .int .i64 j' ∧ j' ≤ j ∧ i' ≤ j' + 1 ∧ j' ≤ g3 ∧ H dk w2 ∧ ExtM (fun k => k = blk) (w.alloc (.cells #[.func (.func g) #[] lb, .func (.func sf) #[] sb] 126)) w2 ∧ Hid (scanDown (fun x => !lt x dk[a]!) dk i' j' = scanDown (fun x => !lt x dk[a]!) dk i' j))
      case atStart => exact ⟨j, rfl, Nat.le_refl _, by omega, Nat.le_refl _, hHi, hxi, rfl⟩
      case round =>
        clear hHi hxi c0 c1
        obtain ⟨j', rfl, hjj, hij2, hgj, hHj, hxj, hsd⟩ := hrel
        obtain ⟨d0, d1⟩ := HCC.out _ hxj
        by_cases hle2 : i' ≤ j'
        ·
          exfalso; omega
        · have hj2 : Hid (j' = scanDown (fun x => !lt x dk[a]!) dk i' j) := (scanDown_end (fun x => !lt x dk[a]!) dk i' j' (Or.inl hle2)).symm.trans hsd.out
          clear hsd
          obtain ⟨w5, hsw5, hHw5, hyw5⟩ := I.swap dk wr j' a hsk hHj (by omega) (by omega)
          go_wp2
          go_ret2
          rw [part_first_break lt d a b pivot Hi.out Hj.out Hdk.out hi2.out hj2.out (by omega)]
          exact ⟨rfl, hHw5, ExtM.trans _ _ _ (ext_none hx1) (ExtM.trans _ _ _ hxj hyw5)⟩
end Go.Proofs.YtggjceolhbdalaaGreatDoor
