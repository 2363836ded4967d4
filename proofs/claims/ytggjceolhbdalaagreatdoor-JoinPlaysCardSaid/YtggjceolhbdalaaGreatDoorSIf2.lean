/- sort's siftDown_func over an abstract less and swap. -/
import Derived.Test.YtggjceolhbdalaaGreatDoorSIf
namespace Go.Proofs.YtggjceolhbdalaaGreatDoor
open Go.RowKit Go.Plan Go.Sort
variable {α : Type} [Inhabited α]

theorem sd_end {lt : α → α → Bool} {hi first root : Nat} {d : Array α} (h : hi ≤ 2 * root + 1) : siftDown lt hi first root d = d := by
  rw [siftDown, dif_pos h]
theorem sd_right {lt : α → α → Bool} {hi first root : Nat} {d : Array α} (h : 2 * root + 2 < hi) (hl : lt d[first + (2 * root + 1)]! d[first + (2 * root + 1) + 1]! = true) :
    siftDown lt hi first root d = if lt d[first + root]! d[first + (2 * root + 2)]! = true then siftDown lt hi first (2 * root + 2) (swp d (first + root) (first + (2 * root + 2))) else d := by
  rw [siftDown, dif_neg (by omega), if_pos (by rw [hl]; simp; omega)]
  by_cases h2 : lt d[first + root]! d[first + (2 * root + 2)]! = true
  · rw [if_neg (by rw [h2]; decide), dif_pos h, if_pos h2]
  · rw [if_pos (by simpa using h2), if_neg h2]
theorem sd_left {lt : α → α → Bool} {hi first root : Nat} {d : Array α} (h : 2 * root + 1 < hi) (hl : ¬ (2 * root + 2 < hi ∧ lt d[first + (2 * root + 1)]! d[first + (2 * root + 1) + 1]! = true)) :
    siftDown lt hi first root d = if lt d[first + root]! d[first + (2 * root + 1)]! = true then siftDown lt hi first (2 * root + 1) (swp d (first + root) (first + (2 * root + 1))) else d := by
  rw [siftDown, dif_neg (by omega), if_neg (by simpa using hl)]
  by_cases h2 : lt d[first + root]! d[first + (2 * root + 1)]! = true
  · rw [if_neg (by rw [h2]; decide), if_pos h2]
  · rw [if_pos (by simpa using h2), if_neg h2]

set_option maxRecDepth 100000 in
set_option maxHeartbeats 4000000 in
theorem siftDown_c {n : Nat} {lt : α → α → Bool} {g : Nat} {lb : Array Value} {sf : Nat} {sb : Array Value} {blk : Nat} {H : Array α → World → Prop} (I : SIf n lt g lb sf sb blk H) (lo hi first : Nat) (d : Array α) (w : World) (hH : H d w) (hs : d.size = n) (hlo : lo ≤ n) (hfh : first + hi ≤ n) (hn : n < 1000000) :
    Calls Tryz.prog 95 #[.agg #[.func (.func g) #[] lb, .func (.func sf) #[] sb], .int .i64 lo, .int .i64 hi, .int .i64 first] w fun e w' => e = .returned (.tuple #[]) ∧ H (siftDown lt hi first lo d) w' ∧ ExtM (fun k => k = blk) w w' := by
  have hbl := I.lt' d w hH
  have hx1 : Ext w (w.alloc (.cells #[.func (.func g) #[] lb, .func (.func sf) #[] sb] 126)) := (ExtM.refl w).alloc _
  have hH1 := I.ext d w _ hH hx1
  have eg := I.eg
  go_enter Tryz.func95, Tryz.ntmps95
  go_wp2
  have q0 : (w.alloc (.cells #[.func (.func g) #[] lb, .func (.func sf) #[] sb] 126)).cell? ⟨w.heap.size, 0, none⟩ = some (.func (.func g) #[] lb) := by go_simp
  have q1 : (w.alloc (.cells #[.func (.func g) #[] lb, .func (.func sf) #[] sb] 126)).cell? ⟨w.heap.size, 1, none⟩ = some (.func (.func sf) #[] sb) := by go_simp
  have hN : w.heap.size < (w.alloc (.cells #[.func (.func g) #[] lb, .func (.func sf) #[] sb] 126)).heap.size := by simp
  generalize w.alloc (.cells #[.func (.func g) #[] lb, .func (.func sf) #[] sb] 126) = W1 at *
  have hcc : ∀ u, ExtM (fun k => k = blk) W1 u → u.cell? ⟨w.heap.size, 0, none⟩ = some (.func (.func g) #[] lb) ∧ u.cell? ⟨w.heap.size, 1, none⟩ = some (.func (.func sf) #[] sb) := fun u hu =>
    ⟨(hu.cell (p := ⟨w.heap.size, 0, none⟩) hN (by simp; omega)).trans q0, (hu.cell (p := ⟨w.heap.size, 1, none⟩) hN (by simp; omega)).trans q1⟩
  have HCC := Lib.hid hcc
  clear hcc q0 q1
  go_loopg [8] (hi + n) (fun kx s8 wr => ∃ (root : Nat) (dk : Array α), s8 = .int .i64 (root : Int) ∧ root ≤ n ∧ hi + n - root ≤ kx ∧ dk.size = n ∧ H dk wr ∧ ExtM (fun k => k = blk) W1 wr ∧ siftDown lt hi first root dk = siftDown lt hi first lo d)
  case atStart => exact ⟨lo, d, rfl, hlo, by omega, hs, hH1, ExtM.refl _, rfl⟩
  case round =>
    obtain ⟨root, dk, rfl, hrn, hgk, hsk, hHk, hxk, hO⟩ := hrel
    have HO := Lib.hid hO
    clear hO
    obtain ⟨c0, c1⟩ := HCC.out _ hxk
    by_cases h1 : hi ≤ 2 * root + 1
    · have hz : decide ((hi : Int) ≤ 2 * (root : Int) + 1) = true := by simp; omega
      go_wp2
      go_end0
      exact ⟨rfl, by rw [← HO.out, sd_end h1]; exact hHk, ExtM.trans _ _ _ (hx1.mono (fun _ _ h => h.elim)) hxk⟩
    · have hz : decide ((hi : Int) ≤ 2 * (root : Int) + 1) = false := by simp; omega
      by_cases h2 : 2 * root + 2 < hi
      · have hcl := I.less dk wr (first + (2 * root + 1)) (first + (2 * root + 1) + 1) hsk hHk (by omega) (by omega)
        have hz2 : decide (2 * (root : Int) + 1 + 1 < (hi : Int)) = true := by simp; omega
        simp only [Int.natCast_add, Int.natCast_mul, Int.cast_ofNat_Int] at hcl
        cases hq : lt dk[first + (2 * root + 1)]! dk[first + (2 * root + 1) + 1]! with
        | true =>
          have HQ := Lib.hid hq
          rw [hq] at hcl
          clear hq
          have hcl2 := fun u hu => I.less dk u (first + root) (first + (2 * root + 2)) hsk (I.ext _ _ _ hHk hu) (by omega) (by omega)
          have hi2 : ((first + (2 * root + 2) : Nat) : Int) = (first : Int) + (2 * (root : Int) + 1 + 1) := by omega
          have hi3 : ((first + root : Nat) : Int) = (first : Int) + (root : Int) := by omega
          rw [hi2, hi3] at hcl2
          cases hq2 : lt dk[first + root]! dk[first + (2 * root + 2)]! with
          | true =>
            have HQ2 := Lib.hid hq2
            rw [hq2] at hcl2
            clear hq2
            go_wp2_with (first
              | (go_at_fn g
                 refine hcl.mono ?_
                 rintro e w2 ⟨rfl, hx2⟩
                 clear hcl
                 have hx2' := ExtM.trans _ _ _ hxk (hx2.mono (fun _ _ h => h.elim) : ExtM (fun k => k = blk) _ _)
                 have hH2 := I.ext _ _ _ hHk hx2
                 obtain ⟨d0, d1⟩ := HCC.out _ hx2')
              | (go_at_fn g
                 refine (hcl2 _ hx2).mono ?_
                 rintro e w3 ⟨rfl, hx3⟩
                 clear hcl2
                 have hx3' := ExtM.trans _ _ _ hx2' (hx3.mono (fun _ _ h => h.elim) : ExtM (fun k => k = blk) _ _)
                 have hH3 := I.ext _ _ _ hH2 hx3
                 obtain ⟨g0, g1⟩ := HCC.out _ hx3'
                 obtain ⟨w4, hsw, hH4, hx4⟩ := I.swap dk w3 (first + root) (first + (2 * root + 2)) hsk hH3 (by omega) (by omega)
                 rw [hi2, hi3] at hsw))
            go_roundg (hi + n - (2 * root + 2))
            case measure => omega
            case rel =>
              exact ⟨(2 * root + 2), _, by go_num, by omega, Nat.le_refl _, by rw [size_swp]; exact hsk, hH4, ExtM.trans _ _ _ hx3' hx4, by rw [← HO.out, sd_right h2 HQ.out, if_pos HQ2.out]⟩
          | false =>
            have HQ2 := Lib.hid hq2
            rw [hq2] at hcl2
            clear hq2
            go_wp2_with (first
              | (go_at_fn g
                 refine hcl.mono ?_
                 rintro e w2 ⟨rfl, hx2⟩
                 clear hcl
                 have hx2' := ExtM.trans _ _ _ hxk (hx2.mono (fun _ _ h => h.elim) : ExtM (fun k => k = blk) _ _)
                 have hH2 := I.ext _ _ _ hHk hx2
                 obtain ⟨d0, d1⟩ := HCC.out _ hx2')
              | (go_at_fn g
                 refine (hcl2 _ hx2).mono ?_
                 rintro e w3 ⟨rfl, hx3⟩
                 clear hcl2
                 have hx3' := ExtM.trans _ _ _ hx2' (hx3.mono (fun _ _ h => h.elim) : ExtM (fun k => k = blk) _ _)
                 have hH3 := I.ext _ _ _ hH2 hx3))
            refine bodyPost_ret (results_none rfl _ _ _) rfl ?_
            exact ⟨rfl, by rw [← HO.out, sd_right h2 HQ.out, if_neg (by rw [HQ2.out]; decide)]; exact hH3, ExtM.trans _ _ _ (hx1.mono (fun _ _ h => h.elim)) hx3'⟩
        | false =>
          have HQ := Lib.hid hq
          rw [hq] at hcl
          clear hq
          have hcl2 := fun u hu => I.less dk u (first + root) (first + (2 * root + 1)) hsk (I.ext _ _ _ hHk hu) (by omega) (by omega)
          have hi2 : ((first + (2 * root + 1) : Nat) : Int) = (first : Int) + (2 * (root : Int) + 1) := by omega
          have hi3 : ((first + root : Nat) : Int) = (first : Int) + (root : Int) := by omega
          rw [hi2, hi3] at hcl2
          cases hq2 : lt dk[first + root]! dk[first + (2 * root + 1)]! with
          | true =>
            have HQ2 := Lib.hid hq2
            rw [hq2] at hcl2
            clear hq2
            go_wp2_with (first
              | (go_at_fn g
                 refine hcl.mono ?_
                 rintro e w2 ⟨rfl, hx2⟩
                 clear hcl
                 have hx2' := ExtM.trans _ _ _ hxk (hx2.mono (fun _ _ h => h.elim) : ExtM (fun k => k = blk) _ _)
                 have hH2 := I.ext _ _ _ hHk hx2
                 obtain ⟨d0, d1⟩ := HCC.out _ hx2')
              | (go_at_fn g
                 refine (hcl2 _ hx2).mono ?_
                 rintro e w3 ⟨rfl, hx3⟩
                 clear hcl2
                 have hx3' := ExtM.trans _ _ _ hx2' (hx3.mono (fun _ _ h => h.elim) : ExtM (fun k => k = blk) _ _)
                 have hH3 := I.ext _ _ _ hH2 hx3
                 obtain ⟨g0, g1⟩ := HCC.out _ hx3'
                 obtain ⟨w4, hsw, hH4, hx4⟩ := I.swap dk w3 (first + root) (first + (2 * root + 1)) hsk hH3 (by omega) (by omega)
                 rw [hi2, hi3] at hsw))
            go_roundg (hi + n - (2 * root + 1))
            case measure => omega
            case rel =>
              exact ⟨(2 * root + 1), _, by go_num, by omega, Nat.le_refl _, by rw [size_swp]; exact hsk, hH4, ExtM.trans _ _ _ hx3' hx4, by rw [← HO.out, sd_left (show 2 * root + 1 < hi by omega) (fun h => by rw [HQ.out] at h; exact absurd h.2 (by decide)), if_pos HQ2.out]⟩
          | false =>
            have HQ2 := Lib.hid hq2
            rw [hq2] at hcl2
            clear hq2
            go_wp2_with (first
              | (go_at_fn g
                 refine hcl.mono ?_
                 rintro e w2 ⟨rfl, hx2⟩
                 clear hcl
                 have hx2' := ExtM.trans _ _ _ hxk (hx2.mono (fun _ _ h => h.elim) : ExtM (fun k => k = blk) _ _)
                 have hH2 := I.ext _ _ _ hHk hx2
                 obtain ⟨d0, d1⟩ := HCC.out _ hx2')
              | (go_at_fn g
                 refine (hcl2 _ hx2).mono ?_
                 rintro e w3 ⟨rfl, hx3⟩
                 clear hcl2
                 have hx3' := ExtM.trans _ _ _ hx2' (hx3.mono (fun _ _ h => h.elim) : ExtM (fun k => k = blk) _ _)
                 have hH3 := I.ext _ _ _ hH2 hx3))
            refine bodyPost_ret (results_none rfl _ _ _) rfl ?_
            exact ⟨rfl, by rw [← HO.out, sd_left (show 2 * root + 1 < hi by omega) (fun h => by rw [HQ.out] at h; exact absurd h.2 (by decide)), if_neg (by rw [HQ2.out]; decide)]; exact hH3, ExtM.trans _ _ _ (hx1.mono (fun _ _ h => h.elim)) hx3'⟩
      · have hz2 : decide (2 * (root : Int) + 1 + 1 < (hi : Int)) = false := by simp; omega
        have hcl2 := fun u hu => I.less dk u (first + root) (first + (2 * root + 1)) hsk (I.ext _ _ _ hHk hu) (by omega) (by omega)
        have hi2 : ((first + (2 * root + 1) : Nat) : Int) = (first : Int) + (2 * (root : Int) + 1) := by omega
        have hi3 : ((first + root : Nat) : Int) = (first : Int) + (root : Int) := by omega
        rw [hi2, hi3] at hcl2
        cases hq2 : lt dk[first + root]! dk[first + (2 * root + 1)]! with
        | true =>
          have HQ2 := Lib.hid hq2
          rw [hq2] at hcl2
          clear hq2
          go_wp2_with (first
            | (go_at_fn g
               refine (hcl2 _ (ExtM.refl _)).mono ?_
               rintro e w3 ⟨rfl, hx3⟩
               clear hcl2
               have hx3' := ExtM.trans _ _ _ hxk (hx3.mono (fun _ _ h => h.elim) : ExtM (fun k => k = blk) _ _)
               have hH3 := I.ext _ _ _ hHk hx3
               obtain ⟨g0, g1⟩ := HCC.out _ hx3'
               obtain ⟨w4, hsw, hH4, hx4⟩ := I.swap dk w3 (first + root) (first + (2 * root + 1)) hsk hH3 (by omega) (by omega)
               rw [hi2, hi3] at hsw))
          go_roundg (hi + n - (2 * root + 1))
          case measure => omega
          case rel =>
            exact ⟨(2 * root + 1), _, by go_num, by omega, Nat.le_refl _, by rw [size_swp]; exact hsk, hH4, ExtM.trans _ _ _ hx3' hx4, by rw [← HO.out, sd_left (show 2 * root + 1 < hi by omega) (fun h => h2 h.1), if_pos HQ2.out]⟩
        | false =>
          have HQ2 := Lib.hid hq2
          rw [hq2] at hcl2
          clear hq2
          go_wp2_with (first
            | (go_at_fn g
               refine (hcl2 _ (ExtM.refl _)).mono ?_
               rintro e w3 ⟨rfl, hx3⟩
               clear hcl2
               have hx3' := ExtM.trans _ _ _ hxk (hx3.mono (fun _ _ h => h.elim) : ExtM (fun k => k = blk) _ _)
               have hH3 := I.ext _ _ _ hHk hx3))
          refine bodyPost_ret (results_none rfl _ _ _) rfl ?_
          exact ⟨rfl, by rw [← HO.out, sd_left (show 2 * root + 1 < hi by omega) (fun h => h2 h.1), if_neg (by rw [HQ2.out]; decide)]; exact hH3, ExtM.trans _ _ _ (hx1.mono (fun _ _ h => h.elim)) hx3'⟩
end Go.Proofs.YtggjceolhbdalaaGreatDoor
