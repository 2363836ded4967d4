/- sort's breakPatterns_func over an abstract swap. -/
import Derived.Test.YtggjceolhbdalaaGreatDoorSIf3
import Derived.Test.YtggjceolhbdalaaGreatDoorShSlice
import Derived.Sort.Walk7
import Derived.Shelf.SlSortFunc.Xorshift
namespace Go.Proofs.YtggjceolhbdalaaGreatDoor
open Go.RowKit Go.Plan Go.Sort
variable {α : Type} [Inhabited α]

theorem extM_of_new {blk c : Nat} {w u v : World} (h : Ext w u) (hc : w.heap.size ≤ c) (k : ExtM (fun k => k = blk ∨ k = c) u v) : ExtM (fun k => k = blk) w v :=
  ⟨k.os.trans h.os, k.tape.trans h.tape, k.output.trans h.output, Nat.le_trans h.size k.size, fun b hb hn => (k.block b (Nat.lt_of_lt_of_le hb h.size) (fun h => h.elim hn (fun h => by omega))).trans (h.block b hb id)⟩

theorem xorNext_c (rb : Nat) (X : Nat) (hX : X < 18446744073709551616) (w : World) (hc : w.cell? ⟨rb, 0, none⟩ = some (.int .u64 X)) (hf : w.frozen? ⟨rb, 0, none⟩ = false) :
    Calls Tryz.prog 97 #[.pointer (some ⟨rb, 0, none⟩)] w fun e w' => e = .returned (.int .u64 (xorNextN X : Nat)) ∧ w' = (w.setCell ⟨rb, 0, none⟩ (.int .u64 (xorNextN X : Nat))).drewN 3 :=
  Any.xorshift_Next { Tryz.shSlice with } rb 0 X hX w hc hf
theorem nextPow_c (n : Nat) (hn : n < 4611686018427387904) (w : World) :
    Calls Tryz.prog 96 #[.int .i64 n] w fun e w' => e = .returned (.int .u64 ((1 <<< bitsLen n : Nat) : Int)) ∧ w' = w :=
  Any.nextPowerOfTwo { Tryz.shSlice with } n hn w


set_option maxRecDepth 1000000 in
set_option maxHeartbeats 8000000 in
theorem breakPat_go {n : Nat} {lt : α → α → Bool} {g : Nat} {lb : Array Value} {sf : Nat} {sb : Array Value} {blk : Nat} {H : Array α → World → Prop} (I : SIf n lt g lb sf sb blk H) (a L : Nat) (d : Array α) (w : World) (hH : H d w) (hs : d.size = n) (hb : a + L ≤ n) (hn : n < 1000000) (h8 : 8 ≤ L) :
    Calls Tryz.prog 83 #[.agg #[.func (.func g) #[] lb, .func (.func sf) #[] sb], .int .i64 a, .int .i64 ((a + L : Nat) : Int)] w fun e w' => e = .returned (.tuple #[]) ∧ H (breakPatterns d a (a + L)) w' ∧ ExtM (fun k => k = blk) w w' := by
  rw [breakPatterns_eq d a L h8]
  obtain ⟨M, hM⟩ : ∃ M : Nat, M = 1 <<< bitsLen L := ⟨_, rfl⟩
  have hM1 : 1 ≤ M := by rw [hM, Nat.one_shiftLeft]; exact Nat.two_pow_pos _
  have hM2 : M ≤ 2 * L := by rw [hM, Nat.one_shiftLeft]; exact two_pow_bitsLen_le (by omega)
  have hNP : ∀ w, Calls Tryz.prog 96 #[.int .i64 (L : Int)] w fun e w' => e = .returned (.int .u64 (M : Int)) ∧ w' = w := by rw [hM]; exact fun w => nextPow_c L (by omega) w
  rw [← hM]
  clear hM
  have hLz : ((a : Int) + (L : Int) - (a : Int)) = (L : Int) := by omega
  have h8z : (8 : Int) ≤ (L : Int) := by omega
  have hbl := I.lt' d w hH
  have hne : w.heap.size ≠ blk := by omega
  have hx0 : Ext w ((w.alloc (.cells #[.func (.func g) #[] lb, .func (.func sf) #[] sb] 126)).alloc (.cells #[.int .u64 (L : Int)] 166)) := ((ExtM.refl w).alloc _).alloc _
  have hH0 := I.ext d w _ hH hx0
  have hnew : ∀ d u u', H d u → ExtM (fun k => k = w.heap.size + 1) u u' → H d u' := fun d' u u' h hx => by
    obtain ⟨B, h1, h2, h3⟩ := I.base
    exact h3 d' u u' h (hx.mono fun k _ hk => by have := h1 d w hH; omega)
  have HNEW := Lib.hid hnew
  clear hnew
  go_enter Tryz.func83, Tryz.ntmps83
  go_wp2_with (first | (go_at_call 96; refine (hNP _).mono ?_; rintro e w' ⟨rfl, rfl⟩))
  go_loopg [9] 3 (fun g1 vi wr => ∃ (t : Nat) (r : UInt64) (dk : Array α), vi = .int .i64 ((a : Int) + (L : Int) / 4 * 2 - 1 + (t : Int)) ∧ t ≤ 3 ∧ 3 - t ≤ g1 ∧ dk.size = n ∧ H dk wr ∧ ExtM (fun k => k = blk ∨ k = w.heap.size + 1) ((w.alloc (.cells #[.func (.func g) #[] lb, .func (.func sf) #[] sb] 126)).alloc (.cells #[.int .u64 (L : Int)] 166)) wr ∧ w.heap.size + 1 < wr.heap.size ∧
      wr.cell? ⟨w.heap.size, 1, none⟩ = some (.func (.func sf) #[] sb) ∧ wr.cell? ⟨w.heap.size + 1, 0, none⟩ = some (.int .u64 (r.toNat : Int)) ∧ wr.frozen? ⟨w.heap.size + 1, 0, none⟩ = false ∧
      Hid (bpRest a L M (a + L / 4 * 2 - 1) (3 - t) t (r, dk) = bpRest a L M (a + L / 4 * 2 - 1) 3 0 (UInt64.ofNat L, d)))
  case atStart =>
    refine ⟨0, UInt64.ofNat L, d, by simp, by omega, by omega, hs, hH0, ExtM.refl _, by simp, by simp, ?_, by simp, rfl⟩
    rw [show (UInt64.ofNat L).toNat = L from by simp; omega]
    simp
  case round =>
    obtain ⟨t, r, dk, rfl, ht, hg1, hds, hHk, hxk, hsz, c1, cR, fR, HR⟩ := hrel
    by_cases ht3 : t < 3
    · have hle : (a : Int) + (L : Int) / 4 * 2 - 1 + (t : Int) ≤ (a : Int) + (L : Int) / 4 * 2 + 1 := by omega
      obtain ⟨R, hRr⟩ : ∃ R : Nat, R = r.toNat := ⟨_, rfl⟩
      have lR : R < 18446744073709551616 := by rw [hRr]; exact r.toNat_lt
      obtain ⟨R', hR'⟩ : ∃ R' : Nat, R' = xorNextN R := ⟨_, rfl⟩
      have lR' : R' < 18446744073709551616 := by rw [hR']; exact xorNextN_lt R lR
      obtain ⟨O, hO⟩ : ∃ O : Nat, O = R' &&& (M - 1) := ⟨_, rfl⟩
      have lO : O ≤ M - 1 := by rw [hO]; exact Nat.and_le_right
      have eAnd : bits .and .u64 (R' : Int) ((M : Int) - 1) = (O : Int) := by
        rw [show ((M : Int) - 1) = ((M - 1 : Nat) : Int) by omega, bits_and_u64_nat _ _ lR' (by omega), hO]
      rw [← hRr] at cR
      have hNext : Calls Tryz.prog 97 #[.pointer (some ⟨w.heap.size + 1, 0, none⟩)] wr fun e w' => e = .returned (.int .u64 (R' : Int)) ∧ w' = (wr.setCell ⟨w.heap.size + 1, 0, none⟩ (.int .u64 (R' : Int))).drewN 3 := by
        rw [hR']; exact xorNext_c _ R lR wr cR fR
      have HN : Hid (R' = (xorNext r).toNat ∧ O = (xorNext r).toNat &&& (M - 1)) := by
        have e : R' = (xorNext r).toNat := by rw [hR', hRr, xorNext_toNat]
        exact ⟨e, by rw [hO, e]⟩
      clear hRr hR' hO
      have hxS : ExtM (fun k => k = w.heap.size + 1) wr ((wr.setCell ⟨w.heap.size + 1, 0, none⟩ (.int .u64 (R' : Int))).drewN 3) := (ExtM.setCell (M := fun k => k = w.heap.size + 1) (ExtM.refl wr) (p := ⟨w.heap.size + 1, 0, none⟩) (.inr rfl) _).drewN 3
      have hH2 := HNEW.out _ _ _ hHk hxS
      have hx2 := ExtM.trans _ _ _ hxk (hxS.mono (fun _ _ h => .inr h) : ExtM (fun k => k = blk ∨ k = w.heap.size + 1) _ _)
      have hs2 := Nat.lt_of_lt_of_le hsz hxS.size
      have c1' : ((wr.setCell ⟨w.heap.size + 1, 0, none⟩ (.int .u64 (R' : Int))).drewN 3).cell? ⟨w.heap.size, 1, none⟩ = some (.func (.func sf) #[] sb) := by
        rw [World.cell?_drewN, World.cell?_setCell_other _ _ _ _ (by intro e; simp only [Addr.mk.injEq, and_true] at e; omega)]; exact c1
      have cR' : ((wr.setCell ⟨w.heap.size + 1, 0, none⟩ (.int .u64 (R' : Int))).drewN 3).cell? ⟨w.heap.size + 1, 0, none⟩ = some (.int .u64 (R' : Int)) := by
        rw [World.cell?_drewN]; exact World.cell?_setCell_same _ _ _ cR
      have fR' : ((wr.setCell ⟨w.heap.size + 1, 0, none⟩ (.int .u64 (R' : Int))).drewN 3).frozen? ⟨w.heap.size + 1, 0, none⟩ = false := by
        rw [World.frozen?_drewN]; simpa using fR
      clear hxS
      generalize (wr.setCell ⟨w.heap.size + 1, 0, none⟩ (.int .u64 (R' : Int))).drewN 3 = w2 at hNext hH2 hx2 hs2 c1' cR' fR'
      clear c1 cR fR hHk hxk
      by_cases hLO : L ≤ O
      · have hLOz : (L : Int) ≤ (O : Int) := by omega
        have S3 := I.swap dk w2 (a + L / 4 * 2 - 1 + t) (a + (O - L)) hds hH2 (by omega) (by omega)
        obtain ⟨w3, hsw, hH3, hx3⟩ := S3
        rw [show ((a + L / 4 * 2 - 1 + t : Nat) : Int) = (a : Int) + (L : Int) / 4 * 2 - 1 + (t : Int) by omega, show (((a + (O - L)) : Nat) : Int) = (a : Int) + ((O : Int) - (L : Int)) by omega] at hsw
        have hx3' : ExtM (fun k => k = blk ∨ k = w.heap.size + 1) w2 w3 := hx3.mono (fun _ _ h => .inl h)
        obtain ⟨k1, k2, k3⟩ : w3.cell? ⟨w.heap.size + 1, 0, none⟩ = some (.int .u64 (R' : Int)) ∧ w3.frozen? ⟨w.heap.size + 1, 0, none⟩ = false ∧ w3.cell? ⟨w.heap.size, 1, none⟩ = some (.func (.func sf) #[] sb) :=
          ⟨(hx3.cell (p := ⟨w.heap.size + 1, 0, none⟩) hs2 (by simp; omega)).trans cR', (hx3.frozen (p := ⟨w.heap.size + 1, 0, none⟩) hs2 (by simp; omega)).trans fR', (hx3.cell (p := ⟨w.heap.size, 1, none⟩) (by simp; omega) (by simp; omega)).trans c1'⟩
        have KK := Lib.hid (And.intro k1 (And.intro k2 k3))
        clear k1 k2 k3
        go_wp2_with (go_at_call 97; refine hNext.mono ?_; rintro e w' ⟨rfl, rfl⟩)
        go_roundg (3 - (t + 1))
        case measure => omega
        case rel => exact ⟨t + 1, xorNext r, swp dk (a + L / 4 * 2 - 1 + t) (a + (O - L)), by congr 1; push_cast; omega, by omega, Nat.le_refl _, by rw [size_swp]; exact hds, hH3, ExtM.trans _ _ _ hx2 hx3', Nat.lt_of_lt_of_le hs2 hx3.size, KK.out.2.2, by rw [← HN.out.1]; exact KK.out.1, KK.out.2.1,
          (show Hid _ from by rw [← HR.out, bp_step a L M _ t r dk (O - L) ht3 (by rw [← HN.out.2, if_pos (show O ≥ L by omega)]; try omega)]; exact rfl)⟩
      · have hLOz : ¬ (L : Int) ≤ (O : Int) := by omega
        have S3 := I.swap dk w2 (a + L / 4 * 2 - 1 + t) (a + O) hds hH2 (by omega) (by omega)
        obtain ⟨w3, hsw, hH3, hx3⟩ := S3
        rw [show ((a + L / 4 * 2 - 1 + t : Nat) : Int) = (a : Int) + (L : Int) / 4 * 2 - 1 + (t : Int) by omega, show (((a + O) : Nat) : Int) = (a : Int) + (O : Int) by omega] at hsw
        have hx3' : ExtM (fun k => k = blk ∨ k = w.heap.size + 1) w2 w3 := hx3.mono (fun _ _ h => .inl h)
        obtain ⟨k1, k2, k3⟩ : w3.cell? ⟨w.heap.size + 1, 0, none⟩ = some (.int .u64 (R' : Int)) ∧ w3.frozen? ⟨w.heap.size + 1, 0, none⟩ = false ∧ w3.cell? ⟨w.heap.size, 1, none⟩ = some (.func (.func sf) #[] sb) :=
          ⟨(hx3.cell (p := ⟨w.heap.size + 1, 0, none⟩) hs2 (by simp; omega)).trans cR', (hx3.frozen (p := ⟨w.heap.size + 1, 0, none⟩) hs2 (by simp; omega)).trans fR', (hx3.cell (p := ⟨w.heap.size, 1, none⟩) (by simp; omega) (by simp; omega)).trans c1'⟩
        have KK := Lib.hid (And.intro k1 (And.intro k2 k3))
        clear k1 k2 k3
        go_wp2_with (go_at_call 97; refine hNext.mono ?_; rintro e w' ⟨rfl, rfl⟩)
        go_roundg (3 - (t + 1))
        case measure => omega
        case rel => exact ⟨t + 1, xorNext r, swp dk (a + L / 4 * 2 - 1 + t) (a + O), by congr 1; push_cast; omega, by omega, Nat.le_refl _, by rw [size_swp]; exact hds, hH3, ExtM.trans _ _ _ hx2 hx3', Nat.lt_of_lt_of_le hs2 hx3.size, KK.out.2.2, by rw [← HN.out.1]; exact KK.out.1, KK.out.2.1,
          (show Hid _ from by rw [← HR.out, bp_step a L M _ t r dk O ht3 (by rw [← HN.out.2, if_neg (show ¬ O ≥ L by omega)]; try omega)]; exact rfl)⟩
    · obtain rfl : t = 3 := by omega
      have hle : ¬ ((a : Int) + (L : Int) / 4 * 2 - 1 + ((3 : Nat) : Int) ≤ (a : Int) + (L : Int) / 4 * 2 + 1) := by omega
      go_wp2
      go_end0
      refine ⟨rfl, ?_, extM_of_new hx0 (by omega) hxk⟩
      rw [← HR.out]
      exact hHk

theorem breakPat_c {n : Nat} {lt : α → α → Bool} {g : Nat} {lb : Array Value} {sf : Nat} {sb : Array Value} {blk : Nat} {H : Array α → World → Prop} (I : SIf n lt g lb sf sb blk H) (a b : Nat) (d : Array α) (w : World) (hH : H d w) (hs : d.size = n) (hab : a ≤ b) (hb : b ≤ n) (hn : n < 1000000) :
    Calls Tryz.prog 83 #[.agg #[.func (.func g) #[] lb, .func (.func sf) #[] sb], .int .i64 a, .int .i64 b] w fun e w' => e = .returned (.tuple #[]) ∧ H (breakPatterns d a b) w' ∧ ExtM (fun k => k = blk) w w' := by
  obtain ⟨L, rfl⟩ : ∃ L, b = a + L := ⟨b - a, by omega⟩
  by_cases h8 : 8 ≤ L
  · exact breakPat_go I a L d w hH hs hb hn h8
  · have hv : breakPatterns d a (a + L) = d := by unfold breakPatterns; simp only [Nat.add_sub_cancel_left]; rw [if_neg h8]
    rw [hv]
    have hLz : ((a : Int) + (L : Int) - (a : Int)) = (L : Int) := by omega
    have h8z : ¬ (8 : Int) ≤ (L : Int) := by omega
    have hx1 : Ext w (w.alloc (.cells #[.func (.func g) #[] lb, .func (.func sf) #[] sb] 126)) := (ExtM.refl w).alloc _
    have hH1 := I.ext d w _ hH hx1
    go_enter Tryz.func83, Tryz.ntmps83
    go_wp2
    go_end0
    exact ⟨rfl, hH1, ext_none hx1⟩
end Go.Proofs.YtggjceolhbdalaaGreatDoor
