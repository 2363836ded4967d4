/- sort's choosePivot_func over an abstract less. -/
import Derived.Test.YtggjceolhbdalaaGreatDoorSIf6
namespace Go.Proofs.YtggjceolhbdalaaGreatDoor
open Go.RowKit Go.Plan Go.Sort
variable {α : Type} [Inhabited α]


theorem ext_of_new {c : Nat} {w u v : World} (h : Ext w u) (hc : w.heap.size ≤ c) (k : ExtM (fun k => k = c) u v) : Ext w v :=
  ⟨k.os.trans h.os, k.tape.trans h.tape, k.output.trans h.output, Nat.le_trans h.size k.size, fun b hb _ => (k.block b (Nat.lt_of_lt_of_le hb h.size) (by omega)).trans (h.block b hb id)⟩

set_option maxRecDepth 100000 in
set_option maxHeartbeats 8000000 in
theorem choosePivot_c {n : Nat} {lt : α → α → Bool} {g : Nat} {lb : Array Value} {sf : Nat} {sb : Array Value} {blk : Nat} {H : Array α → World → Prop} (I : SIf n lt g lb sf sb blk H) (a b : Nat) (d : Array α) (w : World) (hH : H d w) (hs : d.size = n) (hab : a < b) (hb : b ≤ n) (hn : n < 1000000) :
    Calls Tryz.prog 84 #[.agg #[.func (.func g) #[] lb, .func (.func sf) #[] sb], .int .i64 a, .int .i64 b] w fun e w' => e = .returned (.tuple #[.int .i64 (choosePivot lt d a b).1, .int .i64 (hintCode (choosePivot lt d a b).2)]) ∧ H d w' ∧ Ext w w' := by
  have hx2 : Ext w ((w.alloc (.cells #[.func (.func g) #[] lb, .func (.func sf) #[] sb] 126)).alloc (.cells #[.int .i64 0] 3)) := ((ExtM.refl w).alloc _).alloc _
  have hH2 := I.ext d w _ hH hx2
  have hbk := I.lt' d w hH
  have hC : CtrC H blk (w.heap.size + 1) 0 ((w.alloc (.cells #[.func (.func g) #[] lb, .func (.func sf) #[] sb] 126)).alloc (.cells #[.int .i64 0] 3)) := by
    refine ⟨by go_simp, by go_simp, by simp, by omega, fun d' u u' h hx => ?_⟩
    obtain ⟨B, h1, h2, h3⟩ := I.base
    exact h3 d' u u' h (hx.mono fun k _ hk => by have := h1 d w hH; omega)
  have hN : w.heap.size + 1 < ((w.alloc (.cells #[.func (.func g) #[] lb, .func (.func sf) #[] sb] 126)).alloc (.cells #[.int .i64 0] 3)).heap.size := by simp
  have hcc : ∀ u, ExtM (fun k => k = w.heap.size + 1) ((w.alloc (.cells #[.func (.func g) #[] lb, .func (.func sf) #[] sb] 126)).alloc (.cells #[.int .i64 0] 3)) u → u.cell? ⟨w.heap.size, 0, none⟩ = some (.func (.func g) #[] lb) ∧ u.cell? ⟨w.heap.size, 1, none⟩ = some (.func (.func sf) #[] sb) := fun u hu =>
    ⟨(hu.cell (p := ⟨w.heap.size, 0, none⟩) (by simp; omega) (by simp)).trans (by go_simp), (hu.cell (p := ⟨w.heap.size, 1, none⟩) (by simp; omega) (by simp)).trans (by go_simp)⟩
  have HCC := Lib.hid hcc
  have hend : ∀ u, ExtM (fun k => k = w.heap.size + 1) ((w.alloc (.cells #[.func (.func g) #[] lb, .func (.func sf) #[] sb] 126)).alloc (.cells #[.int .i64 0] 3)) u → Ext w u := fun u hu => ext_of_new hx2 (by omega) hu
  have HE := Lib.hid hend
  clear hcc hend
  rw [choosePivot_eq]
  obtain ⟨I0, hI⟩ : ∃ I0 : Nat, I0 = a + (b - a) / 4 * 1 := ⟨_, rfl⟩
  obtain ⟨J, hJ⟩ : ∃ J : Nat, J = a + (b - a) / 4 * 2 := ⟨_, rfl⟩
  obtain ⟨K, hK⟩ : ∃ K : Nat, K = a + (b - a) / 4 * 3 := ⟨_, rfl⟩
  have eI : ((a : Int) + ((b : Int) - (a : Int)) / 4) = (I0 : Int) := by omega
  have eJ : ((a : Int) + ((b : Int) - (a : Int)) / 4 * 2) = (J : Int) := by omega
  have eK : ((a : Int) + ((b : Int) - (a : Int)) / 4 * 3) = (K : Int) := by omega
  by_cases h8 : b - a ≥ 8
  · by_cases h50 : b - a ≥ 50
    · obtain ⟨i1, s1, h1⟩ : ∃ i1 s1, medianAdjacent lt d I0 0 = (i1, s1) := ⟨_, _, rfl⟩
      obtain ⟨j1, s2, h2⟩ : ∃ j1 s2, medianAdjacent lt d J s1 = (j1, s2) := ⟨_, _, rfl⟩
      obtain ⟨k1, s3, h3⟩ : ∃ k1 s3, medianAdjacent lt d K s2 = (k1, s3) := ⟨_, _, rfl⟩
      obtain ⟨p, s, h4⟩ : ∃ p s, median lt d i1 j1 k1 s3 = (p, s) := ⟨_, _, rfl⟩
      have hraw : rawPivot lt d a b = (p, s) := by simp only [rawPivot, if_pos h8, if_pos h50, ← hI, ← hJ, ← hK, h1, h2, h3, h4]
      have m1 := medianAdjacent_mem lt d I0 0; rw [h1] at m1
      have m2 := medianAdjacent_mem lt d J s1; rw [h2] at m2
      have m3 := medianAdjacent_mem lt d K s2; rw [h3] at m3
      have n1 := medianAdjacent_count lt d I0 0; rw [h1] at n1
      have n2 := medianAdjacent_count lt d J s1; rw [h2] at n2
      have n3 := medianAdjacent_count lt d K s2; rw [h3] at n3
      simp only [] at m1 m2 m3 n1 n2 n3
      have c1 := medianAdj_c I I0 (w.heap.size + 1) 0 d _ hH2 hs (by omega) (by omega) hC (by omega) hn
      have c2 := fun u hu hc => medianAdj_c I J (w.heap.size + 1) s1 d u hu hs (by omega) (by omega) hc (by omega) hn
      have c3 := fun u hu hc => medianAdj_c I K (w.heap.size + 1) s2 d u hu hs (by omega) (by omega) hc (by omega) hn
      have c4 := fun u hu hc => median_c I i1 j1 k1 (w.heap.size + 1) s3 d u hu hs (by omega) (by omega) (by omega) hc (by omega)
      rw [h1] at c1; rw [h2] at c2; rw [h3] at c3; rw [h4] at c4
      obtain ⟨Hc, hHc⟩ : ∃ Hc : Int, Hc = hintCode (hintOf s) := ⟨_, rfl⟩
      have hh0 : s = 0 → Hc = 1 := fun h => by rw [hHc, h]; rfl
      have hh12 : s = 12 → Hc = 2 := fun h => by rw [hHc, h]; rfl
      have hhx : s ≠ 0 → s ≠ 12 → Hc = 0 := fun h1 h2 => by rw [hHc]; unfold hintOf; rw [if_neg h1, if_neg h2]; rfl
      rw [hraw]
      show Calls Tryz.prog 84 _ w fun e w' => e = .returned (.tuple #[.int .i64 (p : Int), .int .i64 (hintCode (hintOf s))]) ∧ H d w' ∧ Ext w w'
      rw [← hHc]
      clear hHc hraw
      clear h1 h2 h3 h4 hI hJ hK m1 m2 m3
      obtain ⟨b0, b1⟩ := HCC.out _ (ExtM.refl _)
      go_enter Tryz.func84, Tryz.ntmps84
      go_wp2_with (
        go_at_call 98
        refine c1.mono ?_
        rintro e w3 ⟨rfl, hH3, hC3, hy3⟩
        clear c1
        obtain ⟨c0', c1'⟩ := HCC.out _ hy3)
      go_wp2_with (
        go_at_call 98
        refine (c2 _ hH3 hC3).mono ?_
        rintro e w4 ⟨rfl, hH4, hC4, hy4⟩
        clear c2
        have hy4' := ExtM.trans _ _ _ hy3 hy4
        obtain ⟨c0', c1'⟩ := HCC.out _ hy4')
      go_wp2_with (
        go_at_call 98
        refine (c3 _ hH4 hC4).mono ?_
        rintro e w5 ⟨rfl, hH5, hC5, hy5⟩
        clear c3
        have hy5' := ExtM.trans _ _ _ hy4' hy5
        obtain ⟨c0', c1'⟩ := HCC.out _ hy5')
      go_wp2_with (
        go_at_call 99
        refine (c4 _ hH5 hC5).mono ?_
        rintro e w6 ⟨rfl, hH6, hC6, hy6⟩
        clear c4
        have hy6' := ExtM.trans _ _ _ hy5' hy6
        obtain ⟨cs, -⟩ := hC6)
      all_goals
        go_ret2
        refine ⟨?_, hH6, ?_⟩
        · first
            | (have e0 : (s : Int) = 0 := of_beq_int (by assumption)
               rw [hh0 (by omega)]; rfl)
            | (have e1 : (s : Int) = 12 := of_beq_int (by assumption)
               rw [hh12 (by omega)]; rfl)
            | (have e0 : (s : Int) ≠ 0 := of_bne_int (by assumption)
               have e1 : (s : Int) ≠ 12 := of_bne_int (by assumption)
               rw [hhx (by omega) (by omega)]; rfl)
            | (rw [hh0 (by omega)]; rfl)
        · exact HE.out _ hy6'
    · obtain ⟨p, s, h4⟩ : ∃ p s, median lt d I0 J K 0 = (p, s) := ⟨_, _, rfl⟩
      have hraw : rawPivot lt d a b = (p, s) := by simp only [rawPivot, if_pos h8, if_neg h50, ← hI, ← hJ, ← hK, h4]
      have c4 := median_c I I0 J K (w.heap.size + 1) 0 d _ hH2 hs (by omega) (by omega) (by omega) hC (by omega)
      rw [h4] at c4
      obtain ⟨Hc, hHc⟩ : ∃ Hc : Int, Hc = hintCode (hintOf s) := ⟨_, rfl⟩
      have hh0 : s = 0 → Hc = 1 := fun h => by rw [hHc, h]; rfl
      have hh12 : s = 12 → Hc = 2 := fun h => by rw [hHc, h]; rfl
      have hhx : s ≠ 0 → s ≠ 12 → Hc = 0 := fun h1 h2 => by rw [hHc]; unfold hintOf; rw [if_neg h1, if_neg h2]; rfl
      rw [hraw]
      show Calls Tryz.prog 84 _ w fun e w' => e = .returned (.tuple #[.int .i64 (p : Int), .int .i64 (hintCode (hintOf s))]) ∧ H d w' ∧ Ext w w'
      rw [← hHc]
      clear hHc hraw
      clear h4 hI hJ hK
      obtain ⟨b0, b1⟩ := HCC.out _ (ExtM.refl _)
      go_enter Tryz.func84, Tryz.ntmps84
      go_wp2_with (
        go_at_call 99
        refine c4.mono ?_
        rintro e w6 ⟨rfl, hH6, hC6, hy6⟩
        clear c4
        obtain ⟨cs, -⟩ := hC6)
      all_goals
        go_ret2
        refine ⟨?_, hH6, ?_⟩
        · first
            | (have e0 : (s : Int) = 0 := of_beq_int (by assumption)
               rw [hh0 (by omega)]; rfl)
            | (have e1 : (s : Int) = 12 := of_beq_int (by assumption)
               rw [hh12 (by omega)]; rfl)
            | (have e0 : (s : Int) ≠ 0 := of_bne_int (by assumption)
               have e1 : (s : Int) ≠ 12 := of_bne_int (by assumption)
               rw [hhx (by omega) (by omega)]; rfl)
            | (rw [hh0 (by omega)]; rfl)
        · exact HE.out _ hy6
  · obtain ⟨p, hp⟩ : ∃ p : Nat, p = J := ⟨_, rfl⟩
    obtain ⟨s, hs0⟩ : ∃ s : Nat, s = 0 := ⟨_, rfl⟩
    have hraw : rawPivot lt d a b = (p, s) := by simp only [rawPivot, if_neg h8, ← hJ, hp, hs0]
    obtain ⟨Hc, hHc⟩ : ∃ Hc : Int, Hc = hintCode (hintOf s) := ⟨_, rfl⟩
    have hh0 : s = 0 → Hc = 1 := fun h => by rw [hHc, h]; rfl
    have hh12 : s = 12 → Hc = 2 := fun h => by rw [hHc, h]; rfl
    have hhx : s ≠ 0 → s ≠ 12 → Hc = 0 := fun h1 h2 => by rw [hHc]; unfold hintOf; rw [if_neg h1, if_neg h2]; rfl
    rw [hraw]
    show Calls Tryz.prog 84 _ w fun e w' => e = .returned (.tuple #[.int .i64 (p : Int), .int .i64 (hintCode (hintOf s))]) ∧ H d w' ∧ Ext w w'
    rw [← hHc]
    clear hHc hraw
    subst hp
    have cs : ((w.alloc (.cells #[.func (.func g) #[] lb, .func (.func sf) #[] sb] 126)).alloc (.cells #[.int .i64 0] 3)).cell? ⟨w.heap.size + 1, 0, none⟩ = some (.int .i64 (s : Int)) := by rw [hs0]; exact hC.1
    have hs1 : s = 0 := hs0
    have HS0 := Lib.hid hs0
    clear hI hJ hK hs0 hs1
    go_enter Tryz.func84, Tryz.ntmps84
    go_wp2
    all_goals
      go_ret2
      refine ⟨?_, hH2, ?_⟩
      · first
          | (have e0 : (s : Int) = 0 := of_beq_int (by assumption)
             rw [hh0 (by omega)]; rfl)
          | (have e1 : (s : Int) = 12 := of_beq_int (by assumption)
             rw [hh12 (by omega)]; rfl)
          | (have e0 : (s : Int) ≠ 0 := of_bne_int (by assumption)
             have e1 : (s : Int) ≠ 12 := of_bne_int (by assumption)
             rw [hhx (by omega) (by omega)]; rfl)
          | (rw [hh0 (by omega)]; rfl)
      · exact HE.out _ (ExtM.refl _)
end Go.Proofs.YtggjceolhbdalaaGreatDoor
