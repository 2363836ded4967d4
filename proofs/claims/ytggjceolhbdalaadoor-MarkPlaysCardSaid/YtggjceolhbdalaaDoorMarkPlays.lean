/- MarkPlays: the walk. -/
import Derived.Test.YtggjceolhbdalaaDoorMark
import Derived.Test.YtggjceolhbdalaaDoorPlanB
import Derived.WalkKit
namespace Go.Proofs.YtggjceolhbdalaaDoor
open Go.RowKit Go.Plan

theorem Mk.of {w w' : World} {B : Nat} {x y : Int} (h : Mk w B x y) (hx : Ext w w') : Mk w' B x y :=
  ⟨(ExtM.cell hx (p := ⟨B, 0, none⟩) h.lt (by simp)).trans h.c0, (ExtM.cell hx (p := ⟨B, 1, none⟩) h.lt (by simp)).trans h.c1,
   (ExtM.frozen hx (p := ⟨B, 0, none⟩) h.lt (by simp)).trans h.f0, (ExtM.frozen hx (p := ⟨B, 1, none⟩) h.lt (by simp)).trans h.f1⟩

theorem late_c' (B : Nat) (s t x y o : Int) (w : World) (h : Mk w B x y) (ho : ofI s x y = o) : Calls Tryd.prog 8 #[.pointer (some ⟨B, 0, none⟩), .int .i64 s, .int .i64 t] w fun e w' => e = .returned (.bool (decide (t ≤ o))) ∧ Ext w w' :=
  (late_c B s t x y w h).mono fun e w' hh => by subst ho; exact ⟨hh.1, hh.2 ▸ ExtM.refl _⟩
theorem of_c' (B : Nat) (s x y o : Int) (w : World) (h : Mk w B x y) (ho : ofI s x y = o) : Calls Tryd.prog 9 #[.pointer (some ⟨B, 0, none⟩), .int .i64 s] w fun e w' => e = .returned (.int .i64 o) ∧ Ext w w' :=
  (of_c B s x y w h).mono fun e w' hh => by subst ho; exact ⟨hh.1, hh.2 ▸ ExtM.refl _⟩

theorem move_bad (B : Nat) (s t x y : Int) (w : World) (h : Mk w B x y) (hs : s ≠ 0 ∧ s ≠ 1) : Calls Tryd.prog 11 #[.pointer (some ⟨B, 0, none⟩), .int .i64 s, .int .i64 t] w fun e w' => e = .returned (.iface 30 (.int .i64 1)) ∧ Ext w w' :=
  (move_c B s t x y w h).mono fun e w' hh => by
    have em : moveI s t x y = 1 := by simp [moveI, hs]
    obtain ⟨h1, h2⟩ := hh
    rw [moveW, em, if_neg (by decide)] at h2
    rw [em] at h1; subst h2
    exact ⟨h1, ExtM.refl _⟩
theorem both_c' (B : Nat) (x y : Int) (w : World) (h : Mk w B x y) : Calls Tryd.prog 12 #[.pointer (some ⟨B, 0, none⟩)] w fun e w' => e = .returned (.int .i64 (if y < x then y else x)) ∧ Ext w w' := by
  have : (if y < x then y else x) = min x y := by split <;> omega
  rw [this]; exact both_c B x y w h
theorem lbare_c' (n k : Int) (w : World) (hg : Laid w) (hk : n = k) : Calls Tryd.prog 10 #[.iface 30 (.int .i64 n), .int .i64 k] w fun e w' => e = .returned (.bool true) ∧ Ext w w' :=
  (lbare_c n k w hg).mono fun e w' hh => by subst hk; exact ⟨by simpa using hh.1, hh.2⟩

theorem move_err (B : Nat) (s t x y c : Int) (w : World) (h : Mk w B x y) (em : moveI s t x y = c) (hc : c ≠ 0) : Calls Tryd.prog 11 #[.pointer (some ⟨B, 0, none⟩), .int .i64 s, .int .i64 t] w fun e w' => e = .returned (.iface 30 (.int .i64 c)) ∧ Ext w w' :=
  (move_c B s t x y w h).mono fun e w' hh => by
    obtain ⟨h1, h2⟩ := hh
    rw [moveW, em, if_neg hc] at h2
    rw [em, errV, if_neg hc] at h1; subst h2
    exact ⟨h1, ExtM.refl _⟩

theorem toB {B : Nat} {f : Nat} {args : Array Value} {w : World} {x : Value} (h : Calls Tryd.prog f args w fun e w' => e = .returned x ∧ Ext w w') : Calls Tryd.prog f args w fun e w' => e = .returned x ∧ ExtB B w w' :=
  h.mono fun _ _ hh => ⟨hh.1, ExtB.of_ext hh.2⟩

theorem Mk.set0 {w : World} {B : Nat} {x y : Int} (h : Mk w B x y) (t : Int) : Mk (w.setCell ⟨B, 0, none⟩ (.int .i64 t)) B t y := by
  obtain ⟨c0, c1, f0, f1⟩ := h
  exact ⟨by go_simp, by go_simp, by go_simp, by go_simp⟩
theorem Mk.set1 {w : World} {B : Nat} {x y : Int} (h : Mk w B x y) (t : Int) : Mk (w.setCell ⟨B, 1, none⟩ (.int .i64 t)) B x t := by
  obtain ⟨c0, c1, f0, f1⟩ := h
  exact ⟨by go_simp, by go_simp, by go_simp, by go_simp⟩
theorem Mk.ofB {w w' : World} {A B : Nat} {x y : Int} (h : Mk w A x y) (hx : ExtB B w w') (hne : A ≠ B) : Mk w' A x y :=
  ⟨(hx.rules.1 A 0 h.lt hne).trans h.c0, (hx.rules.1 A 1 h.lt hne).trans h.c1, (hx.rules.2.1 A 0 h.lt hne).trans h.f0, (hx.rules.2.1 A 1 h.lt hne).trans h.f1⟩
theorem Laid.ofB {w w' : World} {B : Nat} (h : Laid w) (hx : ExtB B w w') (hne : 0 ≠ B) : Laid w' := (hx.rules.1 0 0 (cell_lt h) hne).trans h
theorem ext_ofB {w w1 w2 : World} (h : Ext w w1) (hb : ExtB w.heap.size w1 w2) : Ext w w2 :=
  ⟨hb.os.trans h.os, hb.tape.trans h.tape, hb.output.trans h.output, Nat.le_trans h.size hb.size, fun k hk hn => (hb.block k (Nat.lt_of_lt_of_le hk h.size) (by omega)).trans (h.block k hk hn)⟩

theorem move_ok0 (B : Nat) (t x y : Int) (w : World) (h : Mk w B x y) (em : moveI 0 t x y = 0) : Calls Tryd.prog 11 #[.pointer (some ⟨B, 0, none⟩), .int .i64 0, .int .i64 t] w fun e w' => e = .returned .nilIface ∧ ExtB B w w' ∧ Mk w' B t y :=
  (move_c B 0 t x y w h).mono fun e w' hh => by
    obtain ⟨h1, h2⟩ := hh
    rw [moveW, em, if_pos rfl, if_pos rfl] at h2
    rw [em, errV, if_pos rfl] at h1; subst h2
    exact ⟨h1, ExtB.set _ _, h.set0 t⟩
theorem move_ok1 (B : Nat) (t x y : Int) (w : World) (h : Mk w B x y) (em : moveI 1 t x y = 0) : Calls Tryd.prog 11 #[.pointer (some ⟨B, 0, none⟩), .int .i64 1, .int .i64 t] w fun e w' => e = .returned .nilIface ∧ ExtB B w w' ∧ Mk w' B x t :=
  (move_c B 1 t x y w h).mono fun e w' hh => by
    obtain ⟨h1, h2⟩ := hh
    rw [moveW, em, if_pos rfl, if_neg (by decide)] at h2
    rw [em, errV, if_pos rfl] at h1; subst h2
    exact ⟨h1, ExtB.set _ _, h.set1 t⟩
theorem lbare_nil' (w : World) : Calls Tryd.prog 10 #[.nilIface, .int .i64 0] w fun e w' => e = .returned (.bool true) ∧ Ext w w' :=
  (lbare_nil 0 w).mono fun e w' hh => ⟨by simpa using hh.1, hh.2 ▸ ExtM.refl _⟩

set_option maxRecDepth 100000 in
set_option maxHeartbeats 4000000 in
theorem markPlays_w (b off len cap : Nat) (s t : Nat → Int) (w : World) (hg : Laid w)
    (hs : ∀ k, k < len → w.cell? ⟨b, off + k * 2, none⟩ = some (.int .i64 (s k))) (ht : ∀ k, k < len → w.cell? ⟨b, off + k * 2 + 1, none⟩ = some (.int .i64 (t k))) :
    Calls Tryd.prog 3 #[.slice (some ⟨b, off, none⟩) len cap] w fun e w' => e = .returned (.bool true) ∧ Ext w w' := by
  by_cases h60 : 60 < len
  · have d : decide (60 < (len : Int)) = true := by simp; omega
    go_enter Tryd.func3, Tryd.ntmps3
    go_wp2_with fail
    go_ret
    exact ⟨rfl, ExtM.refl _⟩
  have d : decide (60 < (len : Int)) = false := by simp; omega
  go_enter Tryd.func3, Tryd.ntmps3
  go_wp2_with fail
  refine (new_c _).mono ?_
  rintro e w1 ⟨rfl, h1, hm⟩
  go_wp2_with fail
  have hw2 : Ext w (w1.alloc (.cells #[.int .i64 (-1099511627777), .int .i64 (-1099511627777)] 25)) := h1.alloc _
  have hA : Mk (w1.alloc (.cells #[.int .i64 (-1099511627777), .int .i64 (-1099511627777)] 25)) w1.heap.size (-1099511627777) (-1099511627777) :=
    ⟨by go_simp, by go_simp, by rw [Go.RowKit.frozen?_alloc_cells]; simp [World.frozen?], by rw [Go.RowKit.frozen?_alloc_cells]; simp [World.frozen?]⟩
  have hB := hm.of (w' := w1.alloc (.cells #[.int .i64 (-1099511627777), .int .i64 (-1099511627777)] 25)) ((ExtM.refl _).alloc _)
  have hN : w.heap.size < w1.heap.size := hm.lt
  generalize hA1 : w1.heap.size = A1 at *
  generalize hW2 : w1.alloc (.cells #[.int .i64 (-1099511627777), .int .i64 (-1099511627777)] 25) = w2 at *
  go_loopw [5] (fun i wr => ∃ (k : Nat) (x y : Int), k ≤ len ∧ i = .int .i64 k ∧ Mk wr w.heap.size x y ∧ Mk wr A1 x y ∧ Ext w wr) (fun i _ => len - (intOf i).toNat)
  case atStart => exact ⟨0, _, _, Nat.zero_le _, rfl, hB, hA, hw2⟩
  case round =>
    clear hm h1 hA hB hw2 hW2
    obtain ⟨k, x, y, hk, rfl, hm, ha, hx⟩ := hrel
    have hgr := hg.of hx
    by_cases hkl : k < len
    · have hsk := hs k hkl
      have htk := ht k hkl
      have hss := (ExtM.cell hx (p := ⟨b, off + k * 2, none⟩) (cell_lt hsk) (by simp)).trans hsk
      have htt := (ExtM.cell hx (p := ⟨b, off + k * 2 + 1, none⟩) (cell_lt htk) (by simp)).trans htk
      have lb : b < wr.heap.size := cell_lt hss
      clear hs ht hsk htk
      obtain ⟨S, hS⟩ : ∃ S, S = s k := ⟨_, rfl⟩
      obtain ⟨T, hT⟩ : ∃ T, T = t k := ⟨_, rfl⟩
      rw [← hS] at hss; rw [← hT] at htt
      clear hS hT
      have d1 : decide ((k : Int) < len) = true := by simp; omega
      by_cases hbad : S ≠ 0 ∧ S ≠ 1
      · have b0 : (S == 0) = false := by simp [hbad.1]
        have b1 : (S == 1) = false := by simp [hbad.2]
        have b2 : (S != 0) = true := by simp [hbad.1]
        have b3 : (S != 1) = true := by simp [hbad.2]
        have hof : ofI S x y = -1099511627777 := by simp [ofI, hbad.1, hbad.2]
        have em : moveI S T x y = 1 := by simp [moveI, hbad]
        go_wp2_with fail
        skip
        refine Plan.begin Plan.Ext 19 rfl (by kernel_rfl) ?_
        refine Plan.left_q 0 (by rfl) (by kernel_rfl) ?_; go_big_quiet_step (fail); refine wpQuiet_nil ?_
        refine Plan.left_q 1 (by rfl) (by kernel_rfl) ?_; go_big_quiet_step (fail); refine wpQuiet_nil ?_
        refine Plan.left_q 2 (by rfl) (by kernel_rfl) ?_; go_big_quiet_step (fail); refine wpQuiet_nil ?_
        refine Plan.left_q 3 (by rfl) (by kernel_rfl) ?_; go_big_quiet_step (fail); refine wpQuiet_nil ?_
        refine Plan.left_q 4 (by rfl) (by kernel_rfl) ?_; go_big_quiet_step (fail); refine wpQuiet_nil ?_
        refine Plan.left_q 6 (by rfl) (by kernel_rfl) ?_; go_big_quiet_step (fail); refine wpQuiet_nil ?_
        refine Plan.left_q 7 (by rfl) (by kernel_rfl) ?_; go_big_quiet_step (fail); refine wpQuiet_nil ?_
        refine Plan.left_q 8 (by rfl) (by kernel_rfl) ?_; go_big_quiet_step (fail); refine wpQuiet_nil ?_
        refine Plan.left_q 9 (by rfl) (by kernel_rfl) ?_; go_big_quiet_step (fail); refine wpQuiet_nil ?_
        refine Plan.left_one 5 (by kernel_rfl) (by rfl) (Plan.plain rfl fun K hK => ?_)
        go_wp2_with (fail)
        refine (late_c' _ _ _ x y _ _ (hm.of (((ExtM.refl wr).alloc _).drew)) hof).mono ?_
        rintro e w1 ⟨rfl, h1⟩
        have H1 := ExtM.trans _ _ _ (ExtM.refl _).drew h1
        obtain ⟨hc1, hf1, -⟩ := Ext.rules H1
        have hs1_0 : wr.heap.size < w1.heap.size := by have := H1.size; (try simp at this); omega
        go_wp2_with (fail)
        refine hK _ _ h1 ?_
        clear hK K
        refine Plan.left_q 10 (by rfl) (by kernel_rfl) ?_; go_big_quiet_step (fail); refine wpQuiet_nil ?_
        refine Plan.left_q 11 (by rfl) (by kernel_rfl) ?_; go_big_quiet_step (fail); refine wpQuiet_nil ?_
        refine Plan.left_q 12 (by rfl) (by kernel_rfl) ?_; go_big_quiet_step (fail); refine wpQuiet_nil ?_
        refine Plan.left_q 13 (by rfl) (by kernel_rfl) ?_; go_big_quiet_step (fail); refine wpQuiet_nil ?_
        refine Plan.left_q 14 (by rfl) (by kernel_rfl) ?_; go_big_quiet_step (fail); refine wpQuiet_nil ?_
        refine Plan.left_q 16 (by rfl) (by kernel_rfl) ?_; go_big_quiet_step (fail); refine wpQuiet_nil ?_
        refine Plan.left_one 15 (by kernel_rfl) (by rfl) (Plan.want rfl fun K hK => ?_)
        go_wp2_with (fail)
        refine (of_c' _ _ x y _ _ (hm.of (ExtM.trans _ _ _ ((ExtM.refl wr).alloc _) H1)) hof).mono ?_
        rintro e w2 ⟨rfl, h2⟩
        clear hc1 hf1 hs1_0
        have H2 := ExtM.trans _ _ _ H1 h2
        obtain ⟨hc2, hf2, -⟩ := Ext.rules H2
        have hs2_0 : wr.heap.size < w2.heap.size := by have := H2.size; (try simp at this); omega
        go_wp2_with (fail)
        refine hK _ _ h2 ?_
        clear hK K
        refine Plan.left_q 17 (by rfl) (by kernel_rfl) ?_; go_big_quiet_step (fail); refine wpQuiet_nil ?_
        refine Plan.left_q 18 (by rfl) (by kernel_rfl) ?_; go_big_quiet_step (fail); refine wpQuiet_nil ?_
        refine Plan.left_done (by kernel_rfl) ?_
        have hm2 := hm.of (ExtM.trans _ _ _ ((ExtM.refl wr).alloc _) H2)
        have ha2 := ha.of (ExtM.trans _ _ _ ((ExtM.refl wr).alloc _) H2)
        have hx2 : Ext w w2 := ExtM.trans _ _ _ (ExtM.trans _ _ _ hx ((ExtM.refl wr).alloc _)) H2
        have hcS : w2.cell? ⟨wr.heap.size, 0, none⟩ = some (.int .i64 S) := (hc2 _ _ (by simp)).trans (by go_simp)
        have hcT : w2.cell? ⟨wr.heap.size, 1, none⟩ = some (.int .i64 T) := (hc2 _ _ (by simp)).trans (by go_simp)
        clear hc2 hf2 H2 H1 h1 h2 hss htt hm ha hx hgr 
        generalize wr.heap.size = n6 at *
        have hgr := hg.of hx2
        have lA := ha2.lt
        have l6 : n6 < w2.heap.size := cell_lt hcS
        have ha3 := ha2
        obtain ⟨a0, a1, -, -⟩ := ha2
        go_wp2_with fail
        by_cases hxy : y < x
        all_goals
          refine Plan.begin Plan.Ext 33 rfl (by kernel_rfl) ?_
          refine Plan.left_q 0 (by rfl) (by kernel_rfl) ?_; go_big_quiet_step (fail); refine wpQuiet_nil ?_
          refine Plan.left_q 1 (by rfl) (by kernel_rfl) ?_; go_big_quiet_step (fail); refine wpQuiet_nil ?_
          refine Plan.left_q 2 (by rfl) (by kernel_rfl) ?_; go_big_quiet_step (fail); refine wpQuiet_nil ?_
          refine Plan.left_q 3 (by rfl) (by kernel_rfl) ?_; go_big_quiet_step (fail); refine wpQuiet_nil ?_
          refine Plan.left_q 4 (by rfl) (by kernel_rfl) ?_; go_big_quiet_step (fail); refine wpQuiet_nil ?_
          refine Plan.left_q 6 (by rfl) (by kernel_rfl) ?_; go_big_quiet_step (fail); refine wpQuiet_nil ?_
          refine Plan.left_one 5 (by kernel_rfl) (by rfl) (Plan.plain rfl fun K hK => ?_)
          go_wp2_with (fail)
          refine (move_err _ S T x y _ _ (hm2.of (ExtM.refl _).drew) em (by decide)).mono ?_
          rintro e w3 ⟨rfl, h3⟩
          have H3 := ExtM.trans _ _ _ (ExtM.refl _).drew h3
          obtain ⟨hc3, hf3, -⟩ := Ext.rules H3
          have hs3_0 : A1 < w3.heap.size := by have := H3.size; (try simp at this); omega
          have hs3_1 : n6 < w3.heap.size := by have := H3.size; (try simp at this); omega
          go_wp2_with (fail)
          refine hK _ _ h3 ?_
          clear hK K
          refine Plan.left_one 7 (by kernel_rfl) (by rfl) (Plan.plain rfl fun K hK => ?_)
          go_wp2_with (fail)
          refine (lbare_c' 1 1 _ (hgr.of H3) rfl).mono ?_
          rintro e w4 ⟨rfl, h4⟩
          clear hc3 hf3 hs3_0 hs3_1
          have H4 := ExtM.trans _ _ _ H3 h4
          obtain ⟨hc4, hf4, -⟩ := Ext.rules H4
          have hs4_0 : A1 < w4.heap.size := by have := H4.size; (try simp at this); omega
          have hs4_1 : n6 < w4.heap.size := by have := H4.size; (try simp at this); omega
          go_wp2_with (fail)
          refine hK _ _ h4 ?_
          clear hK K
          refine Plan.left_q 8 (by rfl) (by kernel_rfl) ?_; go_big_quiet_step (fail); refine wpQuiet_nil ?_
          refine Plan.left_q 9 (by rfl) (by kernel_rfl) ?_; go_big_quiet_step (fail); refine wpQuiet_nil ?_
          refine Plan.left_q 10 (by rfl) (by kernel_rfl) ?_; go_big_quiet_step (fail); refine wpQuiet_nil ?_
          refine Plan.left_q 12 (by rfl) (by kernel_rfl) ?_; go_big_quiet_step (fail); refine wpQuiet_nil ?_
          refine Plan.left_q 13 (by rfl) (by kernel_rfl) ?_; go_big_quiet_step (fail); refine wpQuiet_nil ?_
          refine Plan.left_one 11 (by kernel_rfl) (by rfl) (Plan.want rfl fun K hK => ?_)
          go_wp2_with (fail)
          refine (of_c' _ 0 x y x _ (hm2.of H4) rfl).mono ?_
          rintro e w5 ⟨rfl, h5⟩
          clear hc4 hf4 hs4_0 hs4_1
          have H5 := ExtM.trans _ _ _ H4 h5
          obtain ⟨hc5, hf5, -⟩ := Ext.rules H5
          have hs5_0 : A1 < w5.heap.size := by have := H5.size; (try simp at this); omega
          have hs5_1 : n6 < w5.heap.size := by have := H5.size; (try simp at this); omega
          go_wp2_with (fail)
          refine hK _ _ h5 ?_
          clear hK K
          refine Plan.left_q 14 (by rfl) (by kernel_rfl) ?_; go_big_quiet_step (fail); refine wpQuiet_nil ?_
          refine Plan.left_q 15 (by rfl) (by kernel_rfl) ?_; go_big_quiet_step (fail); refine wpQuiet_nil ?_
          refine Plan.left_q 16 (by rfl) (by kernel_rfl) ?_; go_big_quiet_step (fail); refine wpQuiet_nil ?_
          refine Plan.left_q 17 (by rfl) (by kernel_rfl) ?_; go_big_quiet_step (fail); refine wpQuiet_nil ?_
          refine Plan.left_q 19 (by rfl) (by kernel_rfl) ?_; go_big_quiet_step (fail); refine wpQuiet_nil ?_
          refine Plan.left_q 20 (by rfl) (by kernel_rfl) ?_; go_big_quiet_step (fail); refine wpQuiet_nil ?_
          refine Plan.left_one 18 (by kernel_rfl) (by rfl) (Plan.want rfl fun K hK => ?_)
          go_wp2_with (fail)
          refine (of_c' _ 1 x y y _ (hm2.of H5) rfl).mono ?_
          rintro e w6 ⟨rfl, h6⟩
          clear hc5 hf5 hs5_0 hs5_1
          have H6 := ExtM.trans _ _ _ H5 h6
          obtain ⟨hc6, hf6, -⟩ := Ext.rules H6
          have hs6_0 : A1 < w6.heap.size := by have := H6.size; (try simp at this); omega
          have hs6_1 : n6 < w6.heap.size := by have := H6.size; (try simp at this); omega
          go_wp2_with (fail)
          refine hK _ _ h6 ?_
          clear hK K
          refine Plan.left_q 21 (by rfl) (by kernel_rfl) ?_; go_big_quiet_step (fail); refine wpQuiet_nil ?_
          refine Plan.left_q 22 (by rfl) (by kernel_rfl) ?_; go_big_quiet_step (fail); refine wpQuiet_nil ?_
          refine Plan.left_q 23 (by rfl) (by kernel_rfl) ?_; go_big_quiet_step (fail); refine wpQuiet_nil ?_
          refine Plan.left_q 24 (by rfl) (by kernel_rfl) ?_; go_big_quiet_step (fail); refine wpQuiet_nil ?_
          refine Plan.left_q 26 (by rfl) (by kernel_rfl) ?_; go_big_quiet_step (fail); refine wpQuiet_nil ?_
          refine Plan.left_q 27 (by rfl) (by kernel_rfl) ?_; go_big_quiet_step (fail); refine wpQuiet_nil ?_
          refine Plan.left_q 28 (by rfl) (by kernel_rfl) ?_; go_big_quiet_step (fail); refine wpQuiet_nil ?_
          refine Plan.left_q 29 (by rfl) (by kernel_rfl) ?_; go_big_quiet_step (fail); refine wpQuiet_nil ?_
          refine Plan.left_q 30 (by rfl) (by kernel_rfl) ?_; go_big_quiet_step (fail); refine wpQuiet_nil ?_
          refine Plan.left_one 25 (by kernel_rfl) (by rfl) (Plan.want rfl fun K hK => ?_)
          go_wp2_with (fail)
          refine (both_c' _ x y _ (hm2.of H6)).mono ?_
          rintro e w7 ⟨rfl, h7⟩
          clear hc6 hf6 hs6_0 hs6_1
          have H7 := ExtM.trans _ _ _ H6 h7
          obtain ⟨hc7, hf7, -⟩ := Ext.rules H7
          have hs7_0 : A1 < w7.heap.size := by have := H7.size; (try simp at this); omega
          have hs7_1 : n6 < w7.heap.size := by have := H7.size; (try simp at this); omega
          go_wp2_with (fail)
          refine hK _ _ h7 ?_
          clear hK K
          refine Plan.left_q 31 (by rfl) (by kernel_rfl) ?_; go_big_quiet_step (fail); refine wpQuiet_nil ?_
          refine Plan.left_q 32 (by rfl) (by kernel_rfl) ?_; go_big_quiet_step (fail); refine wpQuiet_nil ?_
          refine Plan.left_done (by kernel_rfl) ?_
          have R1 := hm2.of H7
          have R2 := ha3.of H7
          have R3 : Ext w w7 := ExtM.trans _ _ _ hx2 H7
          go_wp2_with fail
          go_roundw
          case rel => exact ⟨k + 1, x, y, by omega, by go_num, R1, R2, R3⟩
          case measure => simp [intOf]; omega
      · have hs' : S = 0 ∨ S = 1 := by omega
        clear hbad
        rcases hs' with rfl | rfl
        · skip
          obtain ⟨q0, q1, -, -⟩ := id ha
          have lA0 := ha.lt
          have hof : ofI 0 x y = x := rfl
          by_cases hlo : T < -1099511627776
          · have em : moveI 0 T x y = 2 := by simp [moveI, hlo]
            have e1 : decide (T < -1099511627776) = true := by simp [hlo]
            go_wp2_with fail
            skip
            refine Plan.begin Plan.Ext 19 rfl (by kernel_rfl) ?_
            refine Plan.left_q 0 (by rfl) (by kernel_rfl) ?_; go_big_quiet_step (fail); refine wpQuiet_nil ?_
            refine Plan.left_q 1 (by rfl) (by kernel_rfl) ?_; go_big_quiet_step (fail); refine wpQuiet_nil ?_
            refine Plan.left_q 2 (by rfl) (by kernel_rfl) ?_; go_big_quiet_step (fail); refine wpQuiet_nil ?_
            refine Plan.left_q 3 (by rfl) (by kernel_rfl) ?_; go_big_quiet_step (fail); refine wpQuiet_nil ?_
            refine Plan.left_q 4 (by rfl) (by kernel_rfl) ?_; go_big_quiet_step (fail); refine wpQuiet_nil ?_
            refine Plan.left_q 6 (by rfl) (by kernel_rfl) ?_; go_big_quiet_step (fail); refine wpQuiet_nil ?_
            refine Plan.left_q 7 (by rfl) (by kernel_rfl) ?_; go_big_quiet_step (fail); refine wpQuiet_nil ?_
            refine Plan.left_q 8 (by rfl) (by kernel_rfl) ?_; go_big_quiet_step (fail); refine wpQuiet_nil ?_
            refine Plan.left_q 9 (by rfl) (by kernel_rfl) ?_; go_big_quiet_step (fail); refine wpQuiet_nil ?_
            refine Plan.left_one 5 (by kernel_rfl) (by rfl) (Plan.plain rfl fun K hK => ?_)
            go_wp2_with (fail)
            refine (late_c' _ _ _ x y _ _ (hm.of (((ExtM.refl wr).alloc _).drew)) hof).mono ?_
            rintro e w1 ⟨rfl, h1⟩
            have H1 := ExtM.trans _ _ _ (ExtM.refl _).drew h1
            obtain ⟨hc1, hf1, -⟩ := Ext.rules H1
            have hs1_0 : wr.heap.size < w1.heap.size := by have := H1.size; (try simp at this); omega
            go_wp2_with (fail)
            refine hK _ _ h1 ?_
            clear hK K
            refine Plan.left_q 10 (by rfl) (by kernel_rfl) ?_; go_big_quiet_step (fail); refine wpQuiet_nil ?_
            refine Plan.left_q 11 (by rfl) (by kernel_rfl) ?_; go_big_quiet_step (fail); refine wpQuiet_nil ?_
            refine Plan.left_q 12 (by rfl) (by kernel_rfl) ?_; go_big_quiet_step (fail); refine wpQuiet_nil ?_
            refine Plan.left_q 13 (by rfl) (by kernel_rfl) ?_; go_big_quiet_step (fail); refine wpQuiet_nil ?_
            refine Plan.left_q 14 (by rfl) (by kernel_rfl) ?_; go_big_quiet_step (fail); refine wpQuiet_nil ?_
            refine Plan.left_q 16 (by rfl) (by kernel_rfl) ?_; go_big_quiet_step (fail); refine wpQuiet_nil ?_
            refine Plan.left_one 15 (by kernel_rfl) (by rfl) (Plan.want rfl fun K hK => ?_)
            go_wp2_with (fail)
            refine (of_c' _ _ x y _ _ (hm.of (ExtM.trans _ _ _ ((ExtM.refl wr).alloc _) H1)) hof).mono ?_
            rintro e w2 ⟨rfl, h2⟩
            clear hc1 hf1 hs1_0
            have H2 := ExtM.trans _ _ _ H1 h2
            obtain ⟨hc2, hf2, -⟩ := Ext.rules H2
            have hs2_0 : wr.heap.size < w2.heap.size := by have := H2.size; (try simp at this); omega
            go_wp2_with (fail)
            refine hK _ _ h2 ?_
            clear hK K
            refine Plan.left_q 17 (by rfl) (by kernel_rfl) ?_; go_big_quiet_step (fail); refine wpQuiet_nil ?_
            refine Plan.left_q 18 (by rfl) (by kernel_rfl) ?_; go_big_quiet_step (fail); refine wpQuiet_nil ?_
            refine Plan.left_done (by kernel_rfl) ?_
            have hm2 := hm.of (ExtM.trans _ _ _ ((ExtM.refl wr).alloc _) H2)
            have ha2 := ha.of (ExtM.trans _ _ _ ((ExtM.refl wr).alloc _) H2)
            have hx2 : Ext w w2 := ExtM.trans _ _ _ (ExtM.trans _ _ _ hx ((ExtM.refl wr).alloc _)) H2
            have hcS : w2.cell? ⟨wr.heap.size, 0, none⟩ = some (.int .i64 0) := (hc2 _ _ (by simp)).trans (by go_simp)
            have hcT : w2.cell? ⟨wr.heap.size, 1, none⟩ = some (.int .i64 T) := (hc2 _ _ (by simp)).trans (by go_simp)
            clear hc2 hf2 H2 H1 h1 h2 hss htt hm ha hx hgr q0 q1 lA0
            generalize wr.heap.size = n6 at *
            have hgr := hg.of hx2
            have lA := ha2.lt
            have l6 : n6 < w2.heap.size := cell_lt hcS
            have ha3 := ha2
            obtain ⟨a0, a1, -, -⟩ := ha2
            go_wp2_with fail
            by_cases hxy : y < x
            all_goals
              refine Plan.begin Plan.Ext 33 rfl (by kernel_rfl) ?_
              refine Plan.left_q 0 (by rfl) (by kernel_rfl) ?_; go_big_quiet_step (fail); refine wpQuiet_nil ?_
              refine Plan.left_q 1 (by rfl) (by kernel_rfl) ?_; go_big_quiet_step (fail); refine wpQuiet_nil ?_
              refine Plan.left_q 2 (by rfl) (by kernel_rfl) ?_; go_big_quiet_step (fail); refine wpQuiet_nil ?_
              refine Plan.left_q 3 (by rfl) (by kernel_rfl) ?_; go_big_quiet_step (fail); refine wpQuiet_nil ?_
              refine Plan.left_q 4 (by rfl) (by kernel_rfl) ?_; go_big_quiet_step (fail); refine wpQuiet_nil ?_
              refine Plan.left_q 6 (by rfl) (by kernel_rfl) ?_; go_big_quiet_step (fail); refine wpQuiet_nil ?_
              refine Plan.left_one 5 (by kernel_rfl) (by rfl) (Plan.plain rfl fun K hK => ?_)
              go_wp2_with (fail)
              refine (move_err _ 0 T x y _ _ (hm2.of (ExtM.refl _).drew) em (by decide)).mono ?_
              rintro e w3 ⟨rfl, h3⟩
              have H3 := ExtM.trans _ _ _ (ExtM.refl _).drew h3
              obtain ⟨hc3, hf3, -⟩ := Ext.rules H3
              have hs3_0 : A1 < w3.heap.size := by have := H3.size; (try simp at this); omega
              have hs3_1 : n6 < w3.heap.size := by have := H3.size; (try simp at this); omega
              go_wp2_with (fail)
              refine hK _ _ h3 ?_
              clear hK K
              refine Plan.left_one 7 (by kernel_rfl) (by rfl) (Plan.plain rfl fun K hK => ?_)
              go_wp2_with (fail)
              refine (lbare_c' 2 2 _ (hgr.of H3) rfl).mono ?_
              rintro e w4 ⟨rfl, h4⟩
              clear hc3 hf3 hs3_0 hs3_1
              have H4 := ExtM.trans _ _ _ H3 h4
              obtain ⟨hc4, hf4, -⟩ := Ext.rules H4
              have hs4_0 : A1 < w4.heap.size := by have := H4.size; (try simp at this); omega
              have hs4_1 : n6 < w4.heap.size := by have := H4.size; (try simp at this); omega
              go_wp2_with (fail)
              refine hK _ _ h4 ?_
              clear hK K
              refine Plan.left_q 8 (by rfl) (by kernel_rfl) ?_; go_big_quiet_step (fail); refine wpQuiet_nil ?_
              refine Plan.left_q 9 (by rfl) (by kernel_rfl) ?_; go_big_quiet_step (fail); refine wpQuiet_nil ?_
              refine Plan.left_q 10 (by rfl) (by kernel_rfl) ?_; go_big_quiet_step (fail); refine wpQuiet_nil ?_
              refine Plan.left_q 12 (by rfl) (by kernel_rfl) ?_; go_big_quiet_step (fail); refine wpQuiet_nil ?_
              refine Plan.left_q 13 (by rfl) (by kernel_rfl) ?_; go_big_quiet_step (fail); refine wpQuiet_nil ?_
              refine Plan.left_one 11 (by kernel_rfl) (by rfl) (Plan.want rfl fun K hK => ?_)
              go_wp2_with (fail)
              refine (of_c' _ 0 x y x _ (hm2.of H4) rfl).mono ?_
              rintro e w5 ⟨rfl, h5⟩
              clear hc4 hf4 hs4_0 hs4_1
              have H5 := ExtM.trans _ _ _ H4 h5
              obtain ⟨hc5, hf5, -⟩ := Ext.rules H5
              have hs5_0 : A1 < w5.heap.size := by have := H5.size; (try simp at this); omega
              have hs5_1 : n6 < w5.heap.size := by have := H5.size; (try simp at this); omega
              go_wp2_with (fail)
              refine hK _ _ h5 ?_
              clear hK K
              refine Plan.left_q 14 (by rfl) (by kernel_rfl) ?_; go_big_quiet_step (fail); refine wpQuiet_nil ?_
              refine Plan.left_q 15 (by rfl) (by kernel_rfl) ?_; go_big_quiet_step (fail); refine wpQuiet_nil ?_
              refine Plan.left_q 16 (by rfl) (by kernel_rfl) ?_; go_big_quiet_step (fail); refine wpQuiet_nil ?_
              refine Plan.left_q 17 (by rfl) (by kernel_rfl) ?_; go_big_quiet_step (fail); refine wpQuiet_nil ?_
              refine Plan.left_q 19 (by rfl) (by kernel_rfl) ?_; go_big_quiet_step (fail); refine wpQuiet_nil ?_
              refine Plan.left_q 20 (by rfl) (by kernel_rfl) ?_; go_big_quiet_step (fail); refine wpQuiet_nil ?_
              refine Plan.left_one 18 (by kernel_rfl) (by rfl) (Plan.want rfl fun K hK => ?_)
              go_wp2_with (fail)
              refine (of_c' _ 1 x y y _ (hm2.of H5) rfl).mono ?_
              rintro e w6 ⟨rfl, h6⟩
              clear hc5 hf5 hs5_0 hs5_1
              have H6 := ExtM.trans _ _ _ H5 h6
              obtain ⟨hc6, hf6, -⟩ := Ext.rules H6
              have hs6_0 : A1 < w6.heap.size := by have := H6.size; (try simp at this); omega
              have hs6_1 : n6 < w6.heap.size := by have := H6.size; (try simp at this); omega
              go_wp2_with (fail)
              refine hK _ _ h6 ?_
              clear hK K
              refine Plan.left_q 21 (by rfl) (by kernel_rfl) ?_; go_big_quiet_step (fail); refine wpQuiet_nil ?_
              refine Plan.left_q 22 (by rfl) (by kernel_rfl) ?_; go_big_quiet_step (fail); refine wpQuiet_nil ?_
              refine Plan.left_q 23 (by rfl) (by kernel_rfl) ?_; go_big_quiet_step (fail); refine wpQuiet_nil ?_
              refine Plan.left_q 24 (by rfl) (by kernel_rfl) ?_; go_big_quiet_step (fail); refine wpQuiet_nil ?_
              refine Plan.left_q 26 (by rfl) (by kernel_rfl) ?_; go_big_quiet_step (fail); refine wpQuiet_nil ?_
              refine Plan.left_q 27 (by rfl) (by kernel_rfl) ?_; go_big_quiet_step (fail); refine wpQuiet_nil ?_
              refine Plan.left_q 28 (by rfl) (by kernel_rfl) ?_; go_big_quiet_step (fail); refine wpQuiet_nil ?_
              refine Plan.left_q 29 (by rfl) (by kernel_rfl) ?_; go_big_quiet_step (fail); refine wpQuiet_nil ?_
              refine Plan.left_q 30 (by rfl) (by kernel_rfl) ?_; go_big_quiet_step (fail); refine wpQuiet_nil ?_
              refine Plan.left_one 25 (by kernel_rfl) (by rfl) (Plan.want rfl fun K hK => ?_)
              go_wp2_with (fail)
              refine (both_c' _ x y _ (hm2.of H6)).mono ?_
              rintro e w7 ⟨rfl, h7⟩
              clear hc6 hf6 hs6_0 hs6_1
              have H7 := ExtM.trans _ _ _ H6 h7
              obtain ⟨hc7, hf7, -⟩ := Ext.rules H7
              have hs7_0 : A1 < w7.heap.size := by have := H7.size; (try simp at this); omega
              have hs7_1 : n6 < w7.heap.size := by have := H7.size; (try simp at this); omega
              go_wp2_with (fail)
              refine hK _ _ h7 ?_
              clear hK K
              refine Plan.left_q 31 (by rfl) (by kernel_rfl) ?_; go_big_quiet_step (fail); refine wpQuiet_nil ?_
              refine Plan.left_q 32 (by rfl) (by kernel_rfl) ?_; go_big_quiet_step (fail); refine wpQuiet_nil ?_
              refine Plan.left_done (by kernel_rfl) ?_
              have R1 := hm2.of H7
              have R2 := ha3.of H7
              have R3 : Ext w w7 := ExtM.trans _ _ _ hx2 H7
              go_wp2_with fail
              go_roundw
              case rel => exact ⟨k + 1, x, y, by omega, by go_num, R1, R2, R3⟩
              case measure => simp [intOf]; omega
          have e1 : decide (T < -1099511627776) = false := by simp [hlo]
          by_cases hhi : 1099511627776 < T
          · have em : moveI 0 T x y = 2 := by simp [moveI, hhi]
            have e2 : decide (1099511627776 < T) = true := by simp [hhi]
            go_wp2_with fail
            skip
            refine Plan.begin Plan.Ext 19 rfl (by kernel_rfl) ?_
            refine Plan.left_q 0 (by rfl) (by kernel_rfl) ?_; go_big_quiet_step (fail); refine wpQuiet_nil ?_
            refine Plan.left_q 1 (by rfl) (by kernel_rfl) ?_; go_big_quiet_step (fail); refine wpQuiet_nil ?_
            refine Plan.left_q 2 (by rfl) (by kernel_rfl) ?_; go_big_quiet_step (fail); refine wpQuiet_nil ?_
            refine Plan.left_q 3 (by rfl) (by kernel_rfl) ?_; go_big_quiet_step (fail); refine wpQuiet_nil ?_
            refine Plan.left_q 4 (by rfl) (by kernel_rfl) ?_; go_big_quiet_step (fail); refine wpQuiet_nil ?_
            refine Plan.left_q 6 (by rfl) (by kernel_rfl) ?_; go_big_quiet_step (fail); refine wpQuiet_nil ?_
            refine Plan.left_q 7 (by rfl) (by kernel_rfl) ?_; go_big_quiet_step (fail); refine wpQuiet_nil ?_
            refine Plan.left_q 8 (by rfl) (by kernel_rfl) ?_; go_big_quiet_step (fail); refine wpQuiet_nil ?_
            refine Plan.left_q 9 (by rfl) (by kernel_rfl) ?_; go_big_quiet_step (fail); refine wpQuiet_nil ?_
            refine Plan.left_one 5 (by kernel_rfl) (by rfl) (Plan.plain rfl fun K hK => ?_)
            go_wp2_with (fail)
            refine (late_c' _ _ _ x y _ _ (hm.of (((ExtM.refl wr).alloc _).drew)) hof).mono ?_
            rintro e w1 ⟨rfl, h1⟩
            have H1 := ExtM.trans _ _ _ (ExtM.refl _).drew h1
            obtain ⟨hc1, hf1, -⟩ := Ext.rules H1
            have hs1_0 : wr.heap.size < w1.heap.size := by have := H1.size; (try simp at this); omega
            go_wp2_with (fail)
            refine hK _ _ h1 ?_
            clear hK K
            refine Plan.left_q 10 (by rfl) (by kernel_rfl) ?_; go_big_quiet_step (fail); refine wpQuiet_nil ?_
            refine Plan.left_q 11 (by rfl) (by kernel_rfl) ?_; go_big_quiet_step (fail); refine wpQuiet_nil ?_
            refine Plan.left_q 12 (by rfl) (by kernel_rfl) ?_; go_big_quiet_step (fail); refine wpQuiet_nil ?_
            refine Plan.left_q 13 (by rfl) (by kernel_rfl) ?_; go_big_quiet_step (fail); refine wpQuiet_nil ?_
            refine Plan.left_q 14 (by rfl) (by kernel_rfl) ?_; go_big_quiet_step (fail); refine wpQuiet_nil ?_
            refine Plan.left_q 16 (by rfl) (by kernel_rfl) ?_; go_big_quiet_step (fail); refine wpQuiet_nil ?_
            refine Plan.left_one 15 (by kernel_rfl) (by rfl) (Plan.want rfl fun K hK => ?_)
            go_wp2_with (fail)
            refine (of_c' _ _ x y _ _ (hm.of (ExtM.trans _ _ _ ((ExtM.refl wr).alloc _) H1)) hof).mono ?_
            rintro e w2 ⟨rfl, h2⟩
            clear hc1 hf1 hs1_0
            have H2 := ExtM.trans _ _ _ H1 h2
            obtain ⟨hc2, hf2, -⟩ := Ext.rules H2
            have hs2_0 : wr.heap.size < w2.heap.size := by have := H2.size; (try simp at this); omega
            go_wp2_with (fail)
            refine hK _ _ h2 ?_
            clear hK K
            refine Plan.left_q 17 (by rfl) (by kernel_rfl) ?_; go_big_quiet_step (fail); refine wpQuiet_nil ?_
            refine Plan.left_q 18 (by rfl) (by kernel_rfl) ?_; go_big_quiet_step (fail); refine wpQuiet_nil ?_
            refine Plan.left_done (by kernel_rfl) ?_
            have hm2 := hm.of (ExtM.trans _ _ _ ((ExtM.refl wr).alloc _) H2)
            have ha2 := ha.of (ExtM.trans _ _ _ ((ExtM.refl wr).alloc _) H2)
            have hx2 : Ext w w2 := ExtM.trans _ _ _ (ExtM.trans _ _ _ hx ((ExtM.refl wr).alloc _)) H2
            have hcS : w2.cell? ⟨wr.heap.size, 0, none⟩ = some (.int .i64 0) := (hc2 _ _ (by simp)).trans (by go_simp)
            have hcT : w2.cell? ⟨wr.heap.size, 1, none⟩ = some (.int .i64 T) := (hc2 _ _ (by simp)).trans (by go_simp)
            clear hc2 hf2 H2 H1 h1 h2 hss htt hm ha hx hgr q0 q1 lA0
            generalize wr.heap.size = n6 at *
            have hgr := hg.of hx2
            have lA := ha2.lt
            have l6 : n6 < w2.heap.size := cell_lt hcS
            have ha3 := ha2
            obtain ⟨a0, a1, -, -⟩ := ha2
            go_wp2_with fail
            by_cases hxy : y < x
            all_goals
              refine Plan.begin Plan.Ext 33 rfl (by kernel_rfl) ?_
              refine Plan.left_q 0 (by rfl) (by kernel_rfl) ?_; go_big_quiet_step (fail); refine wpQuiet_nil ?_
              refine Plan.left_q 1 (by rfl) (by kernel_rfl) ?_; go_big_quiet_step (fail); refine wpQuiet_nil ?_
              refine Plan.left_q 2 (by rfl) (by kernel_rfl) ?_; go_big_quiet_step (fail); refine wpQuiet_nil ?_
              refine Plan.left_q 3 (by rfl) (by kernel_rfl) ?_; go_big_quiet_step (fail); refine wpQuiet_nil ?_
              refine Plan.left_q 4 (by rfl) (by kernel_rfl) ?_; go_big_quiet_step (fail); refine wpQuiet_nil ?_
              refine Plan.left_q 6 (by rfl) (by kernel_rfl) ?_; go_big_quiet_step (fail); refine wpQuiet_nil ?_
              refine Plan.left_one 5 (by kernel_rfl) (by rfl) (Plan.plain rfl fun K hK => ?_)
              go_wp2_with (fail)
              refine (move_err _ 0 T x y _ _ (hm2.of (ExtM.refl _).drew) em (by decide)).mono ?_
              rintro e w3 ⟨rfl, h3⟩
              have H3 := ExtM.trans _ _ _ (ExtM.refl _).drew h3
              obtain ⟨hc3, hf3, -⟩ := Ext.rules H3
              have hs3_0 : A1 < w3.heap.size := by have := H3.size; (try simp at this); omega
              have hs3_1 : n6 < w3.heap.size := by have := H3.size; (try simp at this); omega
              go_wp2_with (fail)
              refine hK _ _ h3 ?_
              clear hK K
              refine Plan.left_one 7 (by kernel_rfl) (by rfl) (Plan.plain rfl fun K hK => ?_)
              go_wp2_with (fail)
              refine (lbare_c' 2 2 _ (hgr.of H3) rfl).mono ?_
              rintro e w4 ⟨rfl, h4⟩
              clear hc3 hf3 hs3_0 hs3_1
              have H4 := ExtM.trans _ _ _ H3 h4
              obtain ⟨hc4, hf4, -⟩ := Ext.rules H4
              have hs4_0 : A1 < w4.heap.size := by have := H4.size; (try simp at this); omega
              have hs4_1 : n6 < w4.heap.size := by have := H4.size; (try simp at this); omega
              go_wp2_with (fail)
              refine hK _ _ h4 ?_
              clear hK K
              refine Plan.left_q 8 (by rfl) (by kernel_rfl) ?_; go_big_quiet_step (fail); refine wpQuiet_nil ?_
              refine Plan.left_q 9 (by rfl) (by kernel_rfl) ?_; go_big_quiet_step (fail); refine wpQuiet_nil ?_
              refine Plan.left_q 10 (by rfl) (by kernel_rfl) ?_; go_big_quiet_step (fail); refine wpQuiet_nil ?_
              refine Plan.left_q 12 (by rfl) (by kernel_rfl) ?_; go_big_quiet_step (fail); refine wpQuiet_nil ?_
              refine Plan.left_q 13 (by rfl) (by kernel_rfl) ?_; go_big_quiet_step (fail); refine wpQuiet_nil ?_
              refine Plan.left_one 11 (by kernel_rfl) (by rfl) (Plan.want rfl fun K hK => ?_)
              go_wp2_with (fail)
              refine (of_c' _ 0 x y x _ (hm2.of H4) rfl).mono ?_
              rintro e w5 ⟨rfl, h5⟩
              clear hc4 hf4 hs4_0 hs4_1
              have H5 := ExtM.trans _ _ _ H4 h5
              obtain ⟨hc5, hf5, -⟩ := Ext.rules H5
              have hs5_0 : A1 < w5.heap.size := by have := H5.size; (try simp at this); omega
              have hs5_1 : n6 < w5.heap.size := by have := H5.size; (try simp at this); omega
              go_wp2_with (fail)
              refine hK _ _ h5 ?_
              clear hK K
              refine Plan.left_q 14 (by rfl) (by kernel_rfl) ?_; go_big_quiet_step (fail); refine wpQuiet_nil ?_
              refine Plan.left_q 15 (by rfl) (by kernel_rfl) ?_; go_big_quiet_step (fail); refine wpQuiet_nil ?_
              refine Plan.left_q 16 (by rfl) (by kernel_rfl) ?_; go_big_quiet_step (fail); refine wpQuiet_nil ?_
              refine Plan.left_q 17 (by rfl) (by kernel_rfl) ?_; go_big_quiet_step (fail); refine wpQuiet_nil ?_
              refine Plan.left_q 19 (by rfl) (by kernel_rfl) ?_; go_big_quiet_step (fail); refine wpQuiet_nil ?_
              refine Plan.left_q 20 (by rfl) (by kernel_rfl) ?_; go_big_quiet_step (fail); refine wpQuiet_nil ?_
              refine Plan.left_one 18 (by kernel_rfl) (by rfl) (Plan.want rfl fun K hK => ?_)
              go_wp2_with (fail)
              refine (of_c' _ 1 x y y _ (hm2.of H5) rfl).mono ?_
              rintro e w6 ⟨rfl, h6⟩
              clear hc5 hf5 hs5_0 hs5_1
              have H6 := ExtM.trans _ _ _ H5 h6
              obtain ⟨hc6, hf6, -⟩ := Ext.rules H6
              have hs6_0 : A1 < w6.heap.size := by have := H6.size; (try simp at this); omega
              have hs6_1 : n6 < w6.heap.size := by have := H6.size; (try simp at this); omega
              go_wp2_with (fail)
              refine hK _ _ h6 ?_
              clear hK K
              refine Plan.left_q 21 (by rfl) (by kernel_rfl) ?_; go_big_quiet_step (fail); refine wpQuiet_nil ?_
              refine Plan.left_q 22 (by rfl) (by kernel_rfl) ?_; go_big_quiet_step (fail); refine wpQuiet_nil ?_
              refine Plan.left_q 23 (by rfl) (by kernel_rfl) ?_; go_big_quiet_step (fail); refine wpQuiet_nil ?_
              refine Plan.left_q 24 (by rfl) (by kernel_rfl) ?_; go_big_quiet_step (fail); refine wpQuiet_nil ?_
              refine Plan.left_q 26 (by rfl) (by kernel_rfl) ?_; go_big_quiet_step (fail); refine wpQuiet_nil ?_
              refine Plan.left_q 27 (by rfl) (by kernel_rfl) ?_; go_big_quiet_step (fail); refine wpQuiet_nil ?_
              refine Plan.left_q 28 (by rfl) (by kernel_rfl) ?_; go_big_quiet_step (fail); refine wpQuiet_nil ?_
              refine Plan.left_q 29 (by rfl) (by kernel_rfl) ?_; go_big_quiet_step (fail); refine wpQuiet_nil ?_
              refine Plan.left_q 30 (by rfl) (by kernel_rfl) ?_; go_big_quiet_step (fail); refine wpQuiet_nil ?_
              refine Plan.left_one 25 (by kernel_rfl) (by rfl) (Plan.want rfl fun K hK => ?_)
              go_wp2_with (fail)
              refine (both_c' _ x y _ (hm2.of H6)).mono ?_
              rintro e w7 ⟨rfl, h7⟩
              clear hc6 hf6 hs6_0 hs6_1
              have H7 := ExtM.trans _ _ _ H6 h7
              obtain ⟨hc7, hf7, -⟩ := Ext.rules H7
              have hs7_0 : A1 < w7.heap.size := by have := H7.size; (try simp at this); omega
              have hs7_1 : n6 < w7.heap.size := by have := H7.size; (try simp at this); omega
              go_wp2_with (fail)
              refine hK _ _ h7 ?_
              clear hK K
              refine Plan.left_q 31 (by rfl) (by kernel_rfl) ?_; go_big_quiet_step (fail); refine wpQuiet_nil ?_
              refine Plan.left_q 32 (by rfl) (by kernel_rfl) ?_; go_big_quiet_step (fail); refine wpQuiet_nil ?_
              refine Plan.left_done (by kernel_rfl) ?_
              have R1 := hm2.of H7
              have R2 := ha3.of H7
              have R3 : Ext w w7 := ExtM.trans _ _ _ hx2 H7
              go_wp2_with fail
              go_roundw
              case rel => exact ⟨k + 1, x, y, by omega, by go_num, R1, R2, R3⟩
              case measure => simp [intOf]; omega
          have e2 : decide (1099511627776 < T) = false := by simp [hhi]
          by_cases hor : T < x
          · have em : moveI 0 T x y = 10 := by simp only [moveI, hof]; rw [if_neg (by omega), if_neg (by omega), if_pos hor]
            have e3 : decide (T < x) = true := by simp [hor]
            go_wp2_with fail
            skip
            refine Plan.begin Plan.Ext 19 rfl (by kernel_rfl) ?_
            refine Plan.left_q 0 (by rfl) (by kernel_rfl) ?_; go_big_quiet_step (fail); refine wpQuiet_nil ?_
            refine Plan.left_q 1 (by rfl) (by kernel_rfl) ?_; go_big_quiet_step (fail); refine wpQuiet_nil ?_
            refine Plan.left_q 2 (by rfl) (by kernel_rfl) ?_; go_big_quiet_step (fail); refine wpQuiet_nil ?_
            refine Plan.left_q 3 (by rfl) (by kernel_rfl) ?_; go_big_quiet_step (fail); refine wpQuiet_nil ?_
            refine Plan.left_q 4 (by rfl) (by kernel_rfl) ?_; go_big_quiet_step (fail); refine wpQuiet_nil ?_
            refine Plan.left_q 6 (by rfl) (by kernel_rfl) ?_; go_big_quiet_step (fail); refine wpQuiet_nil ?_
            refine Plan.left_q 7 (by rfl) (by kernel_rfl) ?_; go_big_quiet_step (fail); refine wpQuiet_nil ?_
            refine Plan.left_q 8 (by rfl) (by kernel_rfl) ?_; go_big_quiet_step (fail); refine wpQuiet_nil ?_
            refine Plan.left_q 9 (by rfl) (by kernel_rfl) ?_; go_big_quiet_step (fail); refine wpQuiet_nil ?_
            refine Plan.left_one 5 (by kernel_rfl) (by rfl) (Plan.plain rfl fun K hK => ?_)
            go_wp2_with (fail)
            refine (late_c' _ _ _ x y _ _ (hm.of (((ExtM.refl wr).alloc _).drew)) hof).mono ?_
            rintro e w1 ⟨rfl, h1⟩
            have H1 := ExtM.trans _ _ _ (ExtM.refl _).drew h1
            obtain ⟨hc1, hf1, -⟩ := Ext.rules H1
            have hs1_0 : wr.heap.size < w1.heap.size := by have := H1.size; (try simp at this); omega
            go_wp2_with (fail)
            refine hK _ _ h1 ?_
            clear hK K
            refine Plan.left_q 10 (by rfl) (by kernel_rfl) ?_; go_big_quiet_step (fail); refine wpQuiet_nil ?_
            refine Plan.left_q 11 (by rfl) (by kernel_rfl) ?_; go_big_quiet_step (fail); refine wpQuiet_nil ?_
            refine Plan.left_q 12 (by rfl) (by kernel_rfl) ?_; go_big_quiet_step (fail); refine wpQuiet_nil ?_
            refine Plan.left_q 13 (by rfl) (by kernel_rfl) ?_; go_big_quiet_step (fail); refine wpQuiet_nil ?_
            refine Plan.left_q 14 (by rfl) (by kernel_rfl) ?_; go_big_quiet_step (fail); refine wpQuiet_nil ?_
            refine Plan.left_q 16 (by rfl) (by kernel_rfl) ?_; go_big_quiet_step (fail); refine wpQuiet_nil ?_
            refine Plan.left_one 15 (by kernel_rfl) (by rfl) (Plan.want rfl fun K hK => ?_)
            go_wp2_with (fail)
            refine (of_c' _ _ x y _ _ (hm.of (ExtM.trans _ _ _ ((ExtM.refl wr).alloc _) H1)) hof).mono ?_
            rintro e w2 ⟨rfl, h2⟩
            clear hc1 hf1 hs1_0
            have H2 := ExtM.trans _ _ _ H1 h2
            obtain ⟨hc2, hf2, -⟩ := Ext.rules H2
            have hs2_0 : wr.heap.size < w2.heap.size := by have := H2.size; (try simp at this); omega
            go_wp2_with (fail)
            refine hK _ _ h2 ?_
            clear hK K
            refine Plan.left_q 17 (by rfl) (by kernel_rfl) ?_; go_big_quiet_step (fail); refine wpQuiet_nil ?_
            refine Plan.left_q 18 (by rfl) (by kernel_rfl) ?_; go_big_quiet_step (fail); refine wpQuiet_nil ?_
            refine Plan.left_done (by kernel_rfl) ?_
            have hm2 := hm.of (ExtM.trans _ _ _ ((ExtM.refl wr).alloc _) H2)
            have ha2 := ha.of (ExtM.trans _ _ _ ((ExtM.refl wr).alloc _) H2)
            have hx2 : Ext w w2 := ExtM.trans _ _ _ (ExtM.trans _ _ _ hx ((ExtM.refl wr).alloc _)) H2
            have hcS : w2.cell? ⟨wr.heap.size, 0, none⟩ = some (.int .i64 0) := (hc2 _ _ (by simp)).trans (by go_simp)
            have hcT : w2.cell? ⟨wr.heap.size, 1, none⟩ = some (.int .i64 T) := (hc2 _ _ (by simp)).trans (by go_simp)
            clear hc2 hf2 H2 H1 h1 h2 hss htt hm ha hx hgr q0 q1 lA0
            generalize wr.heap.size = n6 at *
            have hgr := hg.of hx2
            have lA := ha2.lt
            have l6 : n6 < w2.heap.size := cell_lt hcS
            have ha3 := ha2
            obtain ⟨a0, a1, -, -⟩ := ha2
            go_wp2_with fail
            by_cases hxy : y < x
            all_goals
              refine Plan.begin Plan.Ext 33 rfl (by kernel_rfl) ?_
              refine Plan.left_q 0 (by rfl) (by kernel_rfl) ?_; go_big_quiet_step (fail); refine wpQuiet_nil ?_
              refine Plan.left_q 1 (by rfl) (by kernel_rfl) ?_; go_big_quiet_step (fail); refine wpQuiet_nil ?_
              refine Plan.left_q 2 (by rfl) (by kernel_rfl) ?_; go_big_quiet_step (fail); refine wpQuiet_nil ?_
              refine Plan.left_q 3 (by rfl) (by kernel_rfl) ?_; go_big_quiet_step (fail); refine wpQuiet_nil ?_
              refine Plan.left_q 4 (by rfl) (by kernel_rfl) ?_; go_big_quiet_step (fail); refine wpQuiet_nil ?_
              refine Plan.left_q 6 (by rfl) (by kernel_rfl) ?_; go_big_quiet_step (fail); refine wpQuiet_nil ?_
              refine Plan.left_one 5 (by kernel_rfl) (by rfl) (Plan.plain rfl fun K hK => ?_)
              go_wp2_with (fail)
              refine (move_err _ 0 T x y _ _ (hm2.of (ExtM.refl _).drew) em (by decide)).mono ?_
              rintro e w3 ⟨rfl, h3⟩
              have H3 := ExtM.trans _ _ _ (ExtM.refl _).drew h3
              obtain ⟨hc3, hf3, -⟩ := Ext.rules H3
              have hs3_0 : A1 < w3.heap.size := by have := H3.size; (try simp at this); omega
              have hs3_1 : n6 < w3.heap.size := by have := H3.size; (try simp at this); omega
              go_wp2_with (fail)
              refine hK _ _ h3 ?_
              clear hK K
              refine Plan.left_one 7 (by kernel_rfl) (by rfl) (Plan.plain rfl fun K hK => ?_)
              go_wp2_with (fail)
              refine (lbare_c' 10 10 _ (hgr.of H3) rfl).mono ?_
              rintro e w4 ⟨rfl, h4⟩
              clear hc3 hf3 hs3_0 hs3_1
              have H4 := ExtM.trans _ _ _ H3 h4
              obtain ⟨hc4, hf4, -⟩ := Ext.rules H4
              have hs4_0 : A1 < w4.heap.size := by have := H4.size; (try simp at this); omega
              have hs4_1 : n6 < w4.heap.size := by have := H4.size; (try simp at this); omega
              go_wp2_with (fail)
              refine hK _ _ h4 ?_
              clear hK K
              refine Plan.left_q 8 (by rfl) (by kernel_rfl) ?_; go_big_quiet_step (fail); refine wpQuiet_nil ?_
              refine Plan.left_q 9 (by rfl) (by kernel_rfl) ?_; go_big_quiet_step (fail); refine wpQuiet_nil ?_
              refine Plan.left_q 10 (by rfl) (by kernel_rfl) ?_; go_big_quiet_step (fail); refine wpQuiet_nil ?_
              refine Plan.left_q 12 (by rfl) (by kernel_rfl) ?_; go_big_quiet_step (fail); refine wpQuiet_nil ?_
              refine Plan.left_q 13 (by rfl) (by kernel_rfl) ?_; go_big_quiet_step (fail); refine wpQuiet_nil ?_
              refine Plan.left_one 11 (by kernel_rfl) (by rfl) (Plan.want rfl fun K hK => ?_)
              go_wp2_with (fail)
              refine (of_c' _ 0 x y x _ (hm2.of H4) rfl).mono ?_
              rintro e w5 ⟨rfl, h5⟩
              clear hc4 hf4 hs4_0 hs4_1
              have H5 := ExtM.trans _ _ _ H4 h5
              obtain ⟨hc5, hf5, -⟩ := Ext.rules H5
              have hs5_0 : A1 < w5.heap.size := by have := H5.size; (try simp at this); omega
              have hs5_1 : n6 < w5.heap.size := by have := H5.size; (try simp at this); omega
              go_wp2_with (fail)
              refine hK _ _ h5 ?_
              clear hK K
              refine Plan.left_q 14 (by rfl) (by kernel_rfl) ?_; go_big_quiet_step (fail); refine wpQuiet_nil ?_
              refine Plan.left_q 15 (by rfl) (by kernel_rfl) ?_; go_big_quiet_step (fail); refine wpQuiet_nil ?_
              refine Plan.left_q 16 (by rfl) (by kernel_rfl) ?_; go_big_quiet_step (fail); refine wpQuiet_nil ?_
              refine Plan.left_q 17 (by rfl) (by kernel_rfl) ?_; go_big_quiet_step (fail); refine wpQuiet_nil ?_
              refine Plan.left_q 19 (by rfl) (by kernel_rfl) ?_; go_big_quiet_step (fail); refine wpQuiet_nil ?_
              refine Plan.left_q 20 (by rfl) (by kernel_rfl) ?_; go_big_quiet_step (fail); refine wpQuiet_nil ?_
              refine Plan.left_one 18 (by kernel_rfl) (by rfl) (Plan.want rfl fun K hK => ?_)
              go_wp2_with (fail)
              refine (of_c' _ 1 x y y _ (hm2.of H5) rfl).mono ?_
              rintro e w6 ⟨rfl, h6⟩
              clear hc5 hf5 hs5_0 hs5_1
              have H6 := ExtM.trans _ _ _ H5 h6
              obtain ⟨hc6, hf6, -⟩ := Ext.rules H6
              have hs6_0 : A1 < w6.heap.size := by have := H6.size; (try simp at this); omega
              have hs6_1 : n6 < w6.heap.size := by have := H6.size; (try simp at this); omega
              go_wp2_with (fail)
              refine hK _ _ h6 ?_
              clear hK K
              refine Plan.left_q 21 (by rfl) (by kernel_rfl) ?_; go_big_quiet_step (fail); refine wpQuiet_nil ?_
              refine Plan.left_q 22 (by rfl) (by kernel_rfl) ?_; go_big_quiet_step (fail); refine wpQuiet_nil ?_
              refine Plan.left_q 23 (by rfl) (by kernel_rfl) ?_; go_big_quiet_step (fail); refine wpQuiet_nil ?_
              refine Plan.left_q 24 (by rfl) (by kernel_rfl) ?_; go_big_quiet_step (fail); refine wpQuiet_nil ?_
              refine Plan.left_q 26 (by rfl) (by kernel_rfl) ?_; go_big_quiet_step (fail); refine wpQuiet_nil ?_
              refine Plan.left_q 27 (by rfl) (by kernel_rfl) ?_; go_big_quiet_step (fail); refine wpQuiet_nil ?_
              refine Plan.left_q 28 (by rfl) (by kernel_rfl) ?_; go_big_quiet_step (fail); refine wpQuiet_nil ?_
              refine Plan.left_q 29 (by rfl) (by kernel_rfl) ?_; go_big_quiet_step (fail); refine wpQuiet_nil ?_
              refine Plan.left_q 30 (by rfl) (by kernel_rfl) ?_; go_big_quiet_step (fail); refine wpQuiet_nil ?_
              refine Plan.left_one 25 (by kernel_rfl) (by rfl) (Plan.want rfl fun K hK => ?_)
              go_wp2_with (fail)
              refine (both_c' _ x y _ (hm2.of H6)).mono ?_
              rintro e w7 ⟨rfl, h7⟩
              clear hc6 hf6 hs6_0 hs6_1
              have H7 := ExtM.trans _ _ _ H6 h7
              obtain ⟨hc7, hf7, -⟩ := Ext.rules H7
              have hs7_0 : A1 < w7.heap.size := by have := H7.size; (try simp at this); omega
              have hs7_1 : n6 < w7.heap.size := by have := H7.size; (try simp at this); omega
              go_wp2_with (fail)
              refine hK _ _ h7 ?_
              clear hK K
              refine Plan.left_q 31 (by rfl) (by kernel_rfl) ?_; go_big_quiet_step (fail); refine wpQuiet_nil ?_
              refine Plan.left_q 32 (by rfl) (by kernel_rfl) ?_; go_big_quiet_step (fail); refine wpQuiet_nil ?_
              refine Plan.left_done (by kernel_rfl) ?_
              have R1 := hm2.of H7
              have R2 := ha3.of H7
              have R3 : Ext w w7 := ExtM.trans _ _ _ hx2 H7
              go_wp2_with fail
              go_roundw
              case rel => exact ⟨k + 1, x, y, by omega, by go_num, R1, R2, R3⟩
              case measure => simp [intOf]; omega
          have e3 : decide (T < x) = false := by simp [hor]
          have em : moveI 0 T x y = 0 := by simp only [moveI, hof]; rw [if_neg (by omega), if_neg (by omega), if_neg hor]
          go_wp2_with fail
          refine Plan.begin Plan.Ext 19 rfl (by kernel_rfl) ?_
          refine Plan.left_q 0 (by rfl) (by kernel_rfl) ?_; go_big_quiet_step (fail); refine wpQuiet_nil ?_
          refine Plan.left_q 1 (by rfl) (by kernel_rfl) ?_; go_big_quiet_step (fail); refine wpQuiet_nil ?_
          refine Plan.left_q 2 (by rfl) (by kernel_rfl) ?_; go_big_quiet_step (fail); refine wpQuiet_nil ?_
          refine Plan.left_q 3 (by rfl) (by kernel_rfl) ?_; go_big_quiet_step (fail); refine wpQuiet_nil ?_
          refine Plan.left_q 4 (by rfl) (by kernel_rfl) ?_; go_big_quiet_step (fail); refine wpQuiet_nil ?_
          refine Plan.left_q 6 (by rfl) (by kernel_rfl) ?_; go_big_quiet_step (fail); refine wpQuiet_nil ?_
          refine Plan.left_q 7 (by rfl) (by kernel_rfl) ?_; go_big_quiet_step (fail); refine wpQuiet_nil ?_
          refine Plan.left_q 8 (by rfl) (by kernel_rfl) ?_; go_big_quiet_step (fail); refine wpQuiet_nil ?_
          refine Plan.left_q 9 (by rfl) (by kernel_rfl) ?_; go_big_quiet_step (fail); refine wpQuiet_nil ?_
          refine Plan.left_one 5 (by kernel_rfl) (by rfl) (Plan.plain rfl fun K hK => ?_)
          go_wp2_with (fail)
          refine (late_c' _ _ _ x y _ _ (hm.of (((ExtM.refl wr).alloc _).drew)) hof).mono ?_
          rintro e w1 ⟨rfl, h1⟩
          have H1 := ExtM.trans _ _ _ (ExtM.refl _).drew h1
          obtain ⟨hc1, hf1, -⟩ := Ext.rules H1
          have hs1_0 : wr.heap.size < w1.heap.size := by have := H1.size; (try simp at this); omega
          go_wp2_with (fail)
          refine hK _ _ h1 ?_
          clear hK K
          refine Plan.left_q 10 (by rfl) (by kernel_rfl) ?_; go_big_quiet_step (fail); refine wpQuiet_nil ?_
          refine Plan.left_q 11 (by rfl) (by kernel_rfl) ?_; go_big_quiet_step (fail); refine wpQuiet_nil ?_
          refine Plan.left_q 12 (by rfl) (by kernel_rfl) ?_; go_big_quiet_step (fail); refine wpQuiet_nil ?_
          refine Plan.left_q 13 (by rfl) (by kernel_rfl) ?_; go_big_quiet_step (fail); refine wpQuiet_nil ?_
          refine Plan.left_q 14 (by rfl) (by kernel_rfl) ?_; go_big_quiet_step (fail); refine wpQuiet_nil ?_
          refine Plan.left_q 16 (by rfl) (by kernel_rfl) ?_; go_big_quiet_step (fail); refine wpQuiet_nil ?_
          refine Plan.left_one 15 (by kernel_rfl) (by rfl) (Plan.want rfl fun K hK => ?_)
          go_wp2_with (fail)
          refine (of_c' _ _ x y _ _ (hm.of (ExtM.trans _ _ _ ((ExtM.refl wr).alloc _) H1)) hof).mono ?_
          rintro e w2 ⟨rfl, h2⟩
          clear hc1 hf1 hs1_0
          have H2 := ExtM.trans _ _ _ H1 h2
          obtain ⟨hc2, hf2, -⟩ := Ext.rules H2
          have hs2_0 : wr.heap.size < w2.heap.size := by have := H2.size; (try simp at this); omega
          go_wp2_with (fail)
          refine hK _ _ h2 ?_
          clear hK K
          refine Plan.left_q 17 (by rfl) (by kernel_rfl) ?_; go_big_quiet_step (fail); refine wpQuiet_nil ?_
          refine Plan.left_q 18 (by rfl) (by kernel_rfl) ?_; go_big_quiet_step (fail); refine wpQuiet_nil ?_
          refine Plan.left_done (by kernel_rfl) ?_
          have hm2 := hm.of (ExtM.trans _ _ _ ((ExtM.refl wr).alloc _) H2)
          have ha2 := ha.of (ExtM.trans _ _ _ ((ExtM.refl wr).alloc _) H2)
          have hx2 : Ext w w2 := ExtM.trans _ _ _ (ExtM.trans _ _ _ hx ((ExtM.refl wr).alloc _)) H2
          have hcS : w2.cell? ⟨wr.heap.size, 0, none⟩ = some (.int .i64 0) := (hc2 _ _ (by simp)).trans (by go_simp)
          have hcT : w2.cell? ⟨wr.heap.size, 1, none⟩ = some (.int .i64 T) := (hc2 _ _ (by simp)).trans (by go_simp)
          clear hc2 hf2 H2 H1 h1 h2 hss htt hm ha hx hgr q0 q1
          generalize wr.heap.size = n6 at *
          have hgr := hg.of hx2
          have lA := ha2.lt
          have l6 : n6 < w2.heap.size := cell_lt hcS
          obtain ⟨b0, b1, -, -⟩ := id hm2
          obtain ⟨a0, a1, g0, g1⟩ := id ha2
          go_wp2_with fail
          have hA3 : Mk (w2.setCell ⟨A1, 0, none⟩ (.int .i64 T)) A1 T y := ha2.set0 T
          have hX3 : Ext w (w2.setCell ⟨A1, 0, none⟩ (.int .i64 T)) := ExtM.setCell hx2 (p := ⟨A1, 0, none⟩) (Or.inl (Nat.le_of_lt hN)) _
          have kA : ExtB A1 w2 (w2.setCell ⟨A1, 0, none⟩ (.int .i64 T)) := ExtB.set _ _
          have hB3 := hm2.ofB kA (by omega)
          have hg3 := hgr.ofB kA (by omega)
          have cS3 := (kA.rules.1 n6 0 l6 (by omega)).trans hcS
          have cT3 := (kA.rules.1 n6 1 l6 (by omega)).trans hcT
          clear kA hcS hcT hgr lA l6 hm2 ha2 hx2 hs2_0 b0 b1 a0 a1 g0 g1
          generalize w2.setCell ⟨A1, 0, none⟩ (.int .i64 T) = w3 at *
          obtain ⟨a0, a1, -, -⟩ := id hA3
          have lA := hA3.lt
          have l6 : n6 < w3.heap.size := cell_lt cS3
          have nB6 : ¬ n6 = w.heap.size := by omega
          have nBA : ¬ A1 = w.heap.size := by omega
          by_cases hxy : y < T
          all_goals
            refine Plan.begin (Plan.ExtB w.heap.size) 33 rfl (by kernel_rfl) ?_
            refine Plan.left_q 0 (by rfl) (by kernel_rfl) ?_; go_big_quiet_step (fail); refine wpQuiet_nil ?_
            refine Plan.left_q 1 (by rfl) (by kernel_rfl) ?_; go_big_quiet_step (fail); refine wpQuiet_nil ?_
            refine Plan.left_q 2 (by rfl) (by kernel_rfl) ?_; go_big_quiet_step (fail); refine wpQuiet_nil ?_
            refine Plan.left_q 3 (by rfl) (by kernel_rfl) ?_; go_big_quiet_step (fail); refine wpQuiet_nil ?_
            refine Plan.left_q 4 (by rfl) (by kernel_rfl) ?_; go_big_quiet_step (fail); refine wpQuiet_nil ?_
            refine Plan.left_q 6 (by rfl) (by kernel_rfl) ?_; go_big_quiet_step (fail); refine wpQuiet_nil ?_
            refine Plan.left_one 5 (by kernel_rfl) (by rfl) (Plan.plain rfl fun K hK => ?_)
            go_wp2_with (fail)
            refine (move_ok0 _ T x y _ (hB3.of (ExtM.refl _).drew) em).mono ?_
            rintro e w4 ⟨rfl, ⟨h4, k4⟩⟩
            have H4 := ExtB.trans _ _ _ (ExtB.of_ext (ExtM.refl _).drew) h4
            obtain ⟨hc4, hf4, -⟩ := ExtB.rules H4
            have hs4_0 : A1 < w4.heap.size := by have := H4.size; (try simp at this); omega
            have hs4_1 : n6 < w4.heap.size := by have := H4.size; (try simp at this); omega
            go_wp2_with (fail)
            refine hK _ _ h4 ?_
            clear hK K
            refine Plan.left_one 7 (by kernel_rfl) (by rfl) (Plan.plain rfl fun K hK => ?_)
            go_wp2_with (fail)
            refine (lbare_nil' _).mono ?_
            rintro e w5 ⟨rfl, h5⟩
            clear hc4 hf4 hs4_0 hs4_1
            have H5 := ExtB.trans _ _ _ H4 (ExtB.of_ext h5)
            obtain ⟨hc5, hf5, -⟩ := ExtB.rules H5
            have hs5_0 : A1 < w5.heap.size := by have := H5.size; (try simp at this); omega
            have hs5_1 : n6 < w5.heap.size := by have := H5.size; (try simp at this); omega
            go_wp2_with (fail)
            refine hK _ _ (ExtB.of_ext h5) ?_
            clear hK K
            refine Plan.left_q 8 (by rfl) (by kernel_rfl) ?_; go_big_quiet_step (fail); refine wpQuiet_nil ?_
            refine Plan.left_q 9 (by rfl) (by kernel_rfl) ?_; go_big_quiet_step (fail); refine wpQuiet_nil ?_
            refine Plan.left_q 10 (by rfl) (by kernel_rfl) ?_; go_big_quiet_step (fail); refine wpQuiet_nil ?_
            refine Plan.left_q 12 (by rfl) (by kernel_rfl) ?_; go_big_quiet_step (fail); refine wpQuiet_nil ?_
            refine Plan.left_q 13 (by rfl) (by kernel_rfl) ?_; go_big_quiet_step (fail); refine wpQuiet_nil ?_
            refine Plan.left_one 11 (by kernel_rfl) (by rfl) (Plan.want rfl fun K hK => ?_)
            go_wp2_with (fail)
            refine (of_c' _ 0 T y T _ (k4.of h5) rfl).mono ?_
            rintro e w6 ⟨rfl, h6⟩
            clear hc5 hf5 hs5_0 hs5_1
            have H6 := ExtB.trans _ _ _ H5 (ExtB.of_ext h6)
            obtain ⟨hc6, hf6, -⟩ := ExtB.rules H6
            have hs6_0 : A1 < w6.heap.size := by have := H6.size; (try simp at this); omega
            have hs6_1 : n6 < w6.heap.size := by have := H6.size; (try simp at this); omega
            go_wp2_with (fail)
            refine hK _ _ (ExtB.of_ext h6) ?_
            clear hK K
            refine Plan.left_q 14 (by rfl) (by kernel_rfl) ?_; go_big_quiet_step (fail); refine wpQuiet_nil ?_
            refine Plan.left_q 15 (by rfl) (by kernel_rfl) ?_; go_big_quiet_step (fail); refine wpQuiet_nil ?_
            refine Plan.left_q 16 (by rfl) (by kernel_rfl) ?_; go_big_quiet_step (fail); refine wpQuiet_nil ?_
            refine Plan.left_q 17 (by rfl) (by kernel_rfl) ?_; go_big_quiet_step (fail); refine wpQuiet_nil ?_
            refine Plan.left_q 19 (by rfl) (by kernel_rfl) ?_; go_big_quiet_step (fail); refine wpQuiet_nil ?_
            refine Plan.left_q 20 (by rfl) (by kernel_rfl) ?_; go_big_quiet_step (fail); refine wpQuiet_nil ?_
            refine Plan.left_one 18 (by kernel_rfl) (by rfl) (Plan.want rfl fun K hK => ?_)
            go_wp2_with (fail)
            refine (of_c' _ 1 T y y _ ((k4.of h5).of h6) rfl).mono ?_
            rintro e w7 ⟨rfl, h7⟩
            clear hc6 hf6 hs6_0 hs6_1
            have H7 := ExtB.trans _ _ _ H6 (ExtB.of_ext h7)
            obtain ⟨hc7, hf7, -⟩ := ExtB.rules H7
            have hs7_0 : A1 < w7.heap.size := by have := H7.size; (try simp at this); omega
            have hs7_1 : n6 < w7.heap.size := by have := H7.size; (try simp at this); omega
            go_wp2_with (fail)
            refine hK _ _ (ExtB.of_ext h7) ?_
            clear hK K
            refine Plan.left_q 21 (by rfl) (by kernel_rfl) ?_; go_big_quiet_step (fail); refine wpQuiet_nil ?_
            refine Plan.left_q 22 (by rfl) (by kernel_rfl) ?_; go_big_quiet_step (fail); refine wpQuiet_nil ?_
            refine Plan.left_q 23 (by rfl) (by kernel_rfl) ?_; go_big_quiet_step (fail); refine wpQuiet_nil ?_
            refine Plan.left_q 24 (by rfl) (by kernel_rfl) ?_; go_big_quiet_step (fail); refine wpQuiet_nil ?_
            refine Plan.left_q 26 (by rfl) (by kernel_rfl) ?_; go_big_quiet_step (fail); refine wpQuiet_nil ?_
            refine Plan.left_q 27 (by rfl) (by kernel_rfl) ?_; go_big_quiet_step (fail); refine wpQuiet_nil ?_
            refine Plan.left_q 28 (by rfl) (by kernel_rfl) ?_; go_big_quiet_step (fail); refine wpQuiet_nil ?_
            refine Plan.left_q 29 (by rfl) (by kernel_rfl) ?_; go_big_quiet_step (fail); refine wpQuiet_nil ?_
            refine Plan.left_q 30 (by rfl) (by kernel_rfl) ?_; go_big_quiet_step (fail); refine wpQuiet_nil ?_
            refine Plan.left_one 25 (by kernel_rfl) (by rfl) (Plan.want rfl fun K hK => ?_)
            go_wp2_with (fail)
            refine (both_c' _ T y _ (((k4.of h5).of h6).of h7)).mono ?_
            rintro e w8 ⟨rfl, h8⟩
            clear hc7 hf7 hs7_0 hs7_1
            have H8 := ExtB.trans _ _ _ H7 (ExtB.of_ext h8)
            obtain ⟨hc8, hf8, -⟩ := ExtB.rules H8
            have hs8_0 : A1 < w8.heap.size := by have := H8.size; (try simp at this); omega
            have hs8_1 : n6 < w8.heap.size := by have := H8.size; (try simp at this); omega
            go_wp2_with (fail)
            refine hK _ _ (ExtB.of_ext h8) ?_
            clear hK K
            refine Plan.left_q 31 (by rfl) (by kernel_rfl) ?_; go_big_quiet_step (fail); refine wpQuiet_nil ?_
            refine Plan.left_q 32 (by rfl) (by kernel_rfl) ?_; go_big_quiet_step (fail); refine wpQuiet_nil ?_
            refine Plan.left_done (by kernel_rfl) ?_
            have R1 := (((k4.of h5).of h6).of h7).of h8
            have R2 := hA3.ofB H8 (by omega)
            have R3 : Ext w w8 := ext_ofB hX3 H8
            go_wp2_with fail
            go_roundw
            case rel => exact ⟨k + 1, T, y, by omega, by go_num, R1, R2, R3⟩
            case measure => simp [intOf]; omega
        · skip
          obtain ⟨q0, q1, -, -⟩ := id ha
          have lA0 := ha.lt
          have hof : ofI 1 x y = y := rfl
          by_cases hlo : T < -1099511627776
          · have em : moveI 1 T x y = 2 := by simp [moveI, hlo]
            have e1 : decide (T < -1099511627776) = true := by simp [hlo]
            go_wp2_with fail
            skip
            refine Plan.begin Plan.Ext 19 rfl (by kernel_rfl) ?_
            refine Plan.left_q 0 (by rfl) (by kernel_rfl) ?_; go_big_quiet_step (fail); refine wpQuiet_nil ?_
            refine Plan.left_q 1 (by rfl) (by kernel_rfl) ?_; go_big_quiet_step (fail); refine wpQuiet_nil ?_
            refine Plan.left_q 2 (by rfl) (by kernel_rfl) ?_; go_big_quiet_step (fail); refine wpQuiet_nil ?_
            refine Plan.left_q 3 (by rfl) (by kernel_rfl) ?_; go_big_quiet_step (fail); refine wpQuiet_nil ?_
            refine Plan.left_q 4 (by rfl) (by kernel_rfl) ?_; go_big_quiet_step (fail); refine wpQuiet_nil ?_
            refine Plan.left_q 6 (by rfl) (by kernel_rfl) ?_; go_big_quiet_step (fail); refine wpQuiet_nil ?_
            refine Plan.left_q 7 (by rfl) (by kernel_rfl) ?_; go_big_quiet_step (fail); refine wpQuiet_nil ?_
            refine Plan.left_q 8 (by rfl) (by kernel_rfl) ?_; go_big_quiet_step (fail); refine wpQuiet_nil ?_
            refine Plan.left_q 9 (by rfl) (by kernel_rfl) ?_; go_big_quiet_step (fail); refine wpQuiet_nil ?_
            refine Plan.left_one 5 (by kernel_rfl) (by rfl) (Plan.plain rfl fun K hK => ?_)
            go_wp2_with (fail)
            refine (late_c' _ _ _ x y _ _ (hm.of (((ExtM.refl wr).alloc _).drew)) hof).mono ?_
            rintro e w1 ⟨rfl, h1⟩
            have H1 := ExtM.trans _ _ _ (ExtM.refl _).drew h1
            obtain ⟨hc1, hf1, -⟩ := Ext.rules H1
            have hs1_0 : wr.heap.size < w1.heap.size := by have := H1.size; (try simp at this); omega
            go_wp2_with (fail)
            refine hK _ _ h1 ?_
            clear hK K
            refine Plan.left_q 10 (by rfl) (by kernel_rfl) ?_; go_big_quiet_step (fail); refine wpQuiet_nil ?_
            refine Plan.left_q 11 (by rfl) (by kernel_rfl) ?_; go_big_quiet_step (fail); refine wpQuiet_nil ?_
            refine Plan.left_q 12 (by rfl) (by kernel_rfl) ?_; go_big_quiet_step (fail); refine wpQuiet_nil ?_
            refine Plan.left_q 13 (by rfl) (by kernel_rfl) ?_; go_big_quiet_step (fail); refine wpQuiet_nil ?_
            refine Plan.left_q 14 (by rfl) (by kernel_rfl) ?_; go_big_quiet_step (fail); refine wpQuiet_nil ?_
            refine Plan.left_q 16 (by rfl) (by kernel_rfl) ?_; go_big_quiet_step (fail); refine wpQuiet_nil ?_
            refine Plan.left_one 15 (by kernel_rfl) (by rfl) (Plan.want rfl fun K hK => ?_)
            go_wp2_with (fail)
            refine (of_c' _ _ x y _ _ (hm.of (ExtM.trans _ _ _ ((ExtM.refl wr).alloc _) H1)) hof).mono ?_
            rintro e w2 ⟨rfl, h2⟩
            clear hc1 hf1 hs1_0
            have H2 := ExtM.trans _ _ _ H1 h2
            obtain ⟨hc2, hf2, -⟩ := Ext.rules H2
            have hs2_0 : wr.heap.size < w2.heap.size := by have := H2.size; (try simp at this); omega
            go_wp2_with (fail)
            refine hK _ _ h2 ?_
            clear hK K
            refine Plan.left_q 17 (by rfl) (by kernel_rfl) ?_; go_big_quiet_step (fail); refine wpQuiet_nil ?_
            refine Plan.left_q 18 (by rfl) (by kernel_rfl) ?_; go_big_quiet_step (fail); refine wpQuiet_nil ?_
            refine Plan.left_done (by kernel_rfl) ?_
            have hm2 := hm.of (ExtM.trans _ _ _ ((ExtM.refl wr).alloc _) H2)
            have ha2 := ha.of (ExtM.trans _ _ _ ((ExtM.refl wr).alloc _) H2)
            have hx2 : Ext w w2 := ExtM.trans _ _ _ (ExtM.trans _ _ _ hx ((ExtM.refl wr).alloc _)) H2
            have hcS : w2.cell? ⟨wr.heap.size, 0, none⟩ = some (.int .i64 1) := (hc2 _ _ (by simp)).trans (by go_simp)
            have hcT : w2.cell? ⟨wr.heap.size, 1, none⟩ = some (.int .i64 T) := (hc2 _ _ (by simp)).trans (by go_simp)
            clear hc2 hf2 H2 H1 h1 h2 hss htt hm ha hx hgr q0 q1 lA0
            generalize wr.heap.size = n6 at *
            have hgr := hg.of hx2
            have lA := ha2.lt
            have l6 : n6 < w2.heap.size := cell_lt hcS
            have ha3 := ha2
            obtain ⟨a0, a1, -, -⟩ := ha2
            go_wp2_with fail
            by_cases hxy : y < x
            all_goals
              refine Plan.begin Plan.Ext 33 rfl (by kernel_rfl) ?_
              refine Plan.left_q 0 (by rfl) (by kernel_rfl) ?_; go_big_quiet_step (fail); refine wpQuiet_nil ?_
              refine Plan.left_q 1 (by rfl) (by kernel_rfl) ?_; go_big_quiet_step (fail); refine wpQuiet_nil ?_
              refine Plan.left_q 2 (by rfl) (by kernel_rfl) ?_; go_big_quiet_step (fail); refine wpQuiet_nil ?_
              refine Plan.left_q 3 (by rfl) (by kernel_rfl) ?_; go_big_quiet_step (fail); refine wpQuiet_nil ?_
              refine Plan.left_q 4 (by rfl) (by kernel_rfl) ?_; go_big_quiet_step (fail); refine wpQuiet_nil ?_
              refine Plan.left_q 6 (by rfl) (by kernel_rfl) ?_; go_big_quiet_step (fail); refine wpQuiet_nil ?_
              refine Plan.left_one 5 (by kernel_rfl) (by rfl) (Plan.plain rfl fun K hK => ?_)
              go_wp2_with (fail)
              refine (move_err _ 1 T x y _ _ (hm2.of (ExtM.refl _).drew) em (by decide)).mono ?_
              rintro e w3 ⟨rfl, h3⟩
              have H3 := ExtM.trans _ _ _ (ExtM.refl _).drew h3
              obtain ⟨hc3, hf3, -⟩ := Ext.rules H3
              have hs3_0 : A1 < w3.heap.size := by have := H3.size; (try simp at this); omega
              have hs3_1 : n6 < w3.heap.size := by have := H3.size; (try simp at this); omega
              go_wp2_with (fail)
              refine hK _ _ h3 ?_
              clear hK K
              refine Plan.left_one 7 (by kernel_rfl) (by rfl) (Plan.plain rfl fun K hK => ?_)
              go_wp2_with (fail)
              refine (lbare_c' 2 2 _ (hgr.of H3) rfl).mono ?_
              rintro e w4 ⟨rfl, h4⟩
              clear hc3 hf3 hs3_0 hs3_1
              have H4 := ExtM.trans _ _ _ H3 h4
              obtain ⟨hc4, hf4, -⟩ := Ext.rules H4
              have hs4_0 : A1 < w4.heap.size := by have := H4.size; (try simp at this); omega
              have hs4_1 : n6 < w4.heap.size := by have := H4.size; (try simp at this); omega
              go_wp2_with (fail)
              refine hK _ _ h4 ?_
              clear hK K
              refine Plan.left_q 8 (by rfl) (by kernel_rfl) ?_; go_big_quiet_step (fail); refine wpQuiet_nil ?_
              refine Plan.left_q 9 (by rfl) (by kernel_rfl) ?_; go_big_quiet_step (fail); refine wpQuiet_nil ?_
              refine Plan.left_q 10 (by rfl) (by kernel_rfl) ?_; go_big_quiet_step (fail); refine wpQuiet_nil ?_
              refine Plan.left_q 12 (by rfl) (by kernel_rfl) ?_; go_big_quiet_step (fail); refine wpQuiet_nil ?_
              refine Plan.left_q 13 (by rfl) (by kernel_rfl) ?_; go_big_quiet_step (fail); refine wpQuiet_nil ?_
              refine Plan.left_one 11 (by kernel_rfl) (by rfl) (Plan.want rfl fun K hK => ?_)
              go_wp2_with (fail)
              refine (of_c' _ 0 x y x _ (hm2.of H4) rfl).mono ?_
              rintro e w5 ⟨rfl, h5⟩
              clear hc4 hf4 hs4_0 hs4_1
              have H5 := ExtM.trans _ _ _ H4 h5
              obtain ⟨hc5, hf5, -⟩ := Ext.rules H5
              have hs5_0 : A1 < w5.heap.size := by have := H5.size; (try simp at this); omega
              have hs5_1 : n6 < w5.heap.size := by have := H5.size; (try simp at this); omega
              go_wp2_with (fail)
              refine hK _ _ h5 ?_
              clear hK K
              refine Plan.left_q 14 (by rfl) (by kernel_rfl) ?_; go_big_quiet_step (fail); refine wpQuiet_nil ?_
              refine Plan.left_q 15 (by rfl) (by kernel_rfl) ?_; go_big_quiet_step (fail); refine wpQuiet_nil ?_
              refine Plan.left_q 16 (by rfl) (by kernel_rfl) ?_; go_big_quiet_step (fail); refine wpQuiet_nil ?_
              refine Plan.left_q 17 (by rfl) (by kernel_rfl) ?_; go_big_quiet_step (fail); refine wpQuiet_nil ?_
              refine Plan.left_q 19 (by rfl) (by kernel_rfl) ?_; go_big_quiet_step (fail); refine wpQuiet_nil ?_
              refine Plan.left_q 20 (by rfl) (by kernel_rfl) ?_; go_big_quiet_step (fail); refine wpQuiet_nil ?_
              refine Plan.left_one 18 (by kernel_rfl) (by rfl) (Plan.want rfl fun K hK => ?_)
              go_wp2_with (fail)
              refine (of_c' _ 1 x y y _ (hm2.of H5) rfl).mono ?_
              rintro e w6 ⟨rfl, h6⟩
              clear hc5 hf5 hs5_0 hs5_1
              have H6 := ExtM.trans _ _ _ H5 h6
              obtain ⟨hc6, hf6, -⟩ := Ext.rules H6
              have hs6_0 : A1 < w6.heap.size := by have := H6.size; (try simp at this); omega
              have hs6_1 : n6 < w6.heap.size := by have := H6.size; (try simp at this); omega
              go_wp2_with (fail)
              refine hK _ _ h6 ?_
              clear hK K
              refine Plan.left_q 21 (by rfl) (by kernel_rfl) ?_; go_big_quiet_step (fail); refine wpQuiet_nil ?_
              refine Plan.left_q 22 (by rfl) (by kernel_rfl) ?_; go_big_quiet_step (fail); refine wpQuiet_nil ?_
              refine Plan.left_q 23 (by rfl) (by kernel_rfl) ?_; go_big_quiet_step (fail); refine wpQuiet_nil ?_
              refine Plan.left_q 24 (by rfl) (by kernel_rfl) ?_; go_big_quiet_step (fail); refine wpQuiet_nil ?_
              refine Plan.left_q 26 (by rfl) (by kernel_rfl) ?_; go_big_quiet_step (fail); refine wpQuiet_nil ?_
              refine Plan.left_q 27 (by rfl) (by kernel_rfl) ?_; go_big_quiet_step (fail); refine wpQuiet_nil ?_
              refine Plan.left_q 28 (by rfl) (by kernel_rfl) ?_; go_big_quiet_step (fail); refine wpQuiet_nil ?_
              refine Plan.left_q 29 (by rfl) (by kernel_rfl) ?_; go_big_quiet_step (fail); refine wpQuiet_nil ?_
              refine Plan.left_q 30 (by rfl) (by kernel_rfl) ?_; go_big_quiet_step (fail); refine wpQuiet_nil ?_
              refine Plan.left_one 25 (by kernel_rfl) (by rfl) (Plan.want rfl fun K hK => ?_)
              go_wp2_with (fail)
              refine (both_c' _ x y _ (hm2.of H6)).mono ?_
              rintro e w7 ⟨rfl, h7⟩
              clear hc6 hf6 hs6_0 hs6_1
              have H7 := ExtM.trans _ _ _ H6 h7
              obtain ⟨hc7, hf7, -⟩ := Ext.rules H7
              have hs7_0 : A1 < w7.heap.size := by have := H7.size; (try simp at this); omega
              have hs7_1 : n6 < w7.heap.size := by have := H7.size; (try simp at this); omega
              go_wp2_with (fail)
              refine hK _ _ h7 ?_
              clear hK K
              refine Plan.left_q 31 (by rfl) (by kernel_rfl) ?_; go_big_quiet_step (fail); refine wpQuiet_nil ?_
              refine Plan.left_q 32 (by rfl) (by kernel_rfl) ?_; go_big_quiet_step (fail); refine wpQuiet_nil ?_
              refine Plan.left_done (by kernel_rfl) ?_
              have R1 := hm2.of H7
              have R2 := ha3.of H7
              have R3 : Ext w w7 := ExtM.trans _ _ _ hx2 H7
              go_wp2_with fail
              go_roundw
              case rel => exact ⟨k + 1, x, y, by omega, by go_num, R1, R2, R3⟩
              case measure => simp [intOf]; omega
          have e1 : decide (T < -1099511627776) = false := by simp [hlo]
          by_cases hhi : 1099511627776 < T
          · have em : moveI 1 T x y = 2 := by simp [moveI, hhi]
            have e2 : decide (1099511627776 < T) = true := by simp [hhi]
            go_wp2_with fail
            skip
            refine Plan.begin Plan.Ext 19 rfl (by kernel_rfl) ?_
            refine Plan.left_q 0 (by rfl) (by kernel_rfl) ?_; go_big_quiet_step (fail); refine wpQuiet_nil ?_
            refine Plan.left_q 1 (by rfl) (by kernel_rfl) ?_; go_big_quiet_step (fail); refine wpQuiet_nil ?_
            refine Plan.left_q 2 (by rfl) (by kernel_rfl) ?_; go_big_quiet_step (fail); refine wpQuiet_nil ?_
            refine Plan.left_q 3 (by rfl) (by kernel_rfl) ?_; go_big_quiet_step (fail); refine wpQuiet_nil ?_
            refine Plan.left_q 4 (by rfl) (by kernel_rfl) ?_; go_big_quiet_step (fail); refine wpQuiet_nil ?_
            refine Plan.left_q 6 (by rfl) (by kernel_rfl) ?_; go_big_quiet_step (fail); refine wpQuiet_nil ?_
            refine Plan.left_q 7 (by rfl) (by kernel_rfl) ?_; go_big_quiet_step (fail); refine wpQuiet_nil ?_
            refine Plan.left_q 8 (by rfl) (by kernel_rfl) ?_; go_big_quiet_step (fail); refine wpQuiet_nil ?_
            refine Plan.left_q 9 (by rfl) (by kernel_rfl) ?_; go_big_quiet_step (fail); refine wpQuiet_nil ?_
            refine Plan.left_one 5 (by kernel_rfl) (by rfl) (Plan.plain rfl fun K hK => ?_)
            go_wp2_with (fail)
            refine (late_c' _ _ _ x y _ _ (hm.of (((ExtM.refl wr).alloc _).drew)) hof).mono ?_
            rintro e w1 ⟨rfl, h1⟩
            have H1 := ExtM.trans _ _ _ (ExtM.refl _).drew h1
            obtain ⟨hc1, hf1, -⟩ := Ext.rules H1
            have hs1_0 : wr.heap.size < w1.heap.size := by have := H1.size; (try simp at this); omega
            go_wp2_with (fail)
            refine hK _ _ h1 ?_
            clear hK K
            refine Plan.left_q 10 (by rfl) (by kernel_rfl) ?_; go_big_quiet_step (fail); refine wpQuiet_nil ?_
            refine Plan.left_q 11 (by rfl) (by kernel_rfl) ?_; go_big_quiet_step (fail); refine wpQuiet_nil ?_
            refine Plan.left_q 12 (by rfl) (by kernel_rfl) ?_; go_big_quiet_step (fail); refine wpQuiet_nil ?_
            refine Plan.left_q 13 (by rfl) (by kernel_rfl) ?_; go_big_quiet_step (fail); refine wpQuiet_nil ?_
            refine Plan.left_q 14 (by rfl) (by kernel_rfl) ?_; go_big_quiet_step (fail); refine wpQuiet_nil ?_
            refine Plan.left_q 16 (by rfl) (by kernel_rfl) ?_; go_big_quiet_step (fail); refine wpQuiet_nil ?_
            refine Plan.left_one 15 (by kernel_rfl) (by rfl) (Plan.want rfl fun K hK => ?_)
            go_wp2_with (fail)
            refine (of_c' _ _ x y _ _ (hm.of (ExtM.trans _ _ _ ((ExtM.refl wr).alloc _) H1)) hof).mono ?_
            rintro e w2 ⟨rfl, h2⟩
            clear hc1 hf1 hs1_0
            have H2 := ExtM.trans _ _ _ H1 h2
            obtain ⟨hc2, hf2, -⟩ := Ext.rules H2
            have hs2_0 : wr.heap.size < w2.heap.size := by have := H2.size; (try simp at this); omega
            go_wp2_with (fail)
            refine hK _ _ h2 ?_
            clear hK K
            refine Plan.left_q 17 (by rfl) (by kernel_rfl) ?_; go_big_quiet_step (fail); refine wpQuiet_nil ?_
            refine Plan.left_q 18 (by rfl) (by kernel_rfl) ?_; go_big_quiet_step (fail); refine wpQuiet_nil ?_
            refine Plan.left_done (by kernel_rfl) ?_
            have hm2 := hm.of (ExtM.trans _ _ _ ((ExtM.refl wr).alloc _) H2)
            have ha2 := ha.of (ExtM.trans _ _ _ ((ExtM.refl wr).alloc _) H2)
            have hx2 : Ext w w2 := ExtM.trans _ _ _ (ExtM.trans _ _ _ hx ((ExtM.refl wr).alloc _)) H2
            have hcS : w2.cell? ⟨wr.heap.size, 0, none⟩ = some (.int .i64 1) := (hc2 _ _ (by simp)).trans (by go_simp)
            have hcT : w2.cell? ⟨wr.heap.size, 1, none⟩ = some (.int .i64 T) := (hc2 _ _ (by simp)).trans (by go_simp)
            clear hc2 hf2 H2 H1 h1 h2 hss htt hm ha hx hgr q0 q1 lA0
            generalize wr.heap.size = n6 at *
            have hgr := hg.of hx2
            have lA := ha2.lt
            have l6 : n6 < w2.heap.size := cell_lt hcS
            have ha3 := ha2
            obtain ⟨a0, a1, -, -⟩ := ha2
            go_wp2_with fail
            by_cases hxy : y < x
            all_goals
              refine Plan.begin Plan.Ext 33 rfl (by kernel_rfl) ?_
              refine Plan.left_q 0 (by rfl) (by kernel_rfl) ?_; go_big_quiet_step (fail); refine wpQuiet_nil ?_
              refine Plan.left_q 1 (by rfl) (by kernel_rfl) ?_; go_big_quiet_step (fail); refine wpQuiet_nil ?_
              refine Plan.left_q 2 (by rfl) (by kernel_rfl) ?_; go_big_quiet_step (fail); refine wpQuiet_nil ?_
              refine Plan.left_q 3 (by rfl) (by kernel_rfl) ?_; go_big_quiet_step (fail); refine wpQuiet_nil ?_
              refine Plan.left_q 4 (by rfl) (by kernel_rfl) ?_; go_big_quiet_step (fail); refine wpQuiet_nil ?_
              refine Plan.left_q 6 (by rfl) (by kernel_rfl) ?_; go_big_quiet_step (fail); refine wpQuiet_nil ?_
              refine Plan.left_one 5 (by kernel_rfl) (by rfl) (Plan.plain rfl fun K hK => ?_)
              go_wp2_with (fail)
              refine (move_err _ 1 T x y _ _ (hm2.of (ExtM.refl _).drew) em (by decide)).mono ?_
              rintro e w3 ⟨rfl, h3⟩
              have H3 := ExtM.trans _ _ _ (ExtM.refl _).drew h3
              obtain ⟨hc3, hf3, -⟩ := Ext.rules H3
              have hs3_0 : A1 < w3.heap.size := by have := H3.size; (try simp at this); omega
              have hs3_1 : n6 < w3.heap.size := by have := H3.size; (try simp at this); omega
              go_wp2_with (fail)
              refine hK _ _ h3 ?_
              clear hK K
              refine Plan.left_one 7 (by kernel_rfl) (by rfl) (Plan.plain rfl fun K hK => ?_)
              go_wp2_with (fail)
              refine (lbare_c' 2 2 _ (hgr.of H3) rfl).mono ?_
              rintro e w4 ⟨rfl, h4⟩
              clear hc3 hf3 hs3_0 hs3_1
              have H4 := ExtM.trans _ _ _ H3 h4
              obtain ⟨hc4, hf4, -⟩ := Ext.rules H4
              have hs4_0 : A1 < w4.heap.size := by have := H4.size; (try simp at this); omega
              have hs4_1 : n6 < w4.heap.size := by have := H4.size; (try simp at this); omega
              go_wp2_with (fail)
              refine hK _ _ h4 ?_
              clear hK K
              refine Plan.left_q 8 (by rfl) (by kernel_rfl) ?_; go_big_quiet_step (fail); refine wpQuiet_nil ?_
              refine Plan.left_q 9 (by rfl) (by kernel_rfl) ?_; go_big_quiet_step (fail); refine wpQuiet_nil ?_
              refine Plan.left_q 10 (by rfl) (by kernel_rfl) ?_; go_big_quiet_step (fail); refine wpQuiet_nil ?_
              refine Plan.left_q 12 (by rfl) (by kernel_rfl) ?_; go_big_quiet_step (fail); refine wpQuiet_nil ?_
              refine Plan.left_q 13 (by rfl) (by kernel_rfl) ?_; go_big_quiet_step (fail); refine wpQuiet_nil ?_
              refine Plan.left_one 11 (by kernel_rfl) (by rfl) (Plan.want rfl fun K hK => ?_)
              go_wp2_with (fail)
              refine (of_c' _ 0 x y x _ (hm2.of H4) rfl).mono ?_
              rintro e w5 ⟨rfl, h5⟩
              clear hc4 hf4 hs4_0 hs4_1
              have H5 := ExtM.trans _ _ _ H4 h5
              obtain ⟨hc5, hf5, -⟩ := Ext.rules H5
              have hs5_0 : A1 < w5.heap.size := by have := H5.size; (try simp at this); omega
              have hs5_1 : n6 < w5.heap.size := by have := H5.size; (try simp at this); omega
              go_wp2_with (fail)
              refine hK _ _ h5 ?_
              clear hK K
              refine Plan.left_q 14 (by rfl) (by kernel_rfl) ?_; go_big_quiet_step (fail); refine wpQuiet_nil ?_
              refine Plan.left_q 15 (by rfl) (by kernel_rfl) ?_; go_big_quiet_step (fail); refine wpQuiet_nil ?_
              refine Plan.left_q 16 (by rfl) (by kernel_rfl) ?_; go_big_quiet_step (fail); refine wpQuiet_nil ?_
              refine Plan.left_q 17 (by rfl) (by kernel_rfl) ?_; go_big_quiet_step (fail); refine wpQuiet_nil ?_
              refine Plan.left_q 19 (by rfl) (by kernel_rfl) ?_; go_big_quiet_step (fail); refine wpQuiet_nil ?_
              refine Plan.left_q 20 (by rfl) (by kernel_rfl) ?_; go_big_quiet_step (fail); refine wpQuiet_nil ?_
              refine Plan.left_one 18 (by kernel_rfl) (by rfl) (Plan.want rfl fun K hK => ?_)
              go_wp2_with (fail)
              refine (of_c' _ 1 x y y _ (hm2.of H5) rfl).mono ?_
              rintro e w6 ⟨rfl, h6⟩
              clear hc5 hf5 hs5_0 hs5_1
              have H6 := ExtM.trans _ _ _ H5 h6
              obtain ⟨hc6, hf6, -⟩ := Ext.rules H6
              have hs6_0 : A1 < w6.heap.size := by have := H6.size; (try simp at this); omega
              have hs6_1 : n6 < w6.heap.size := by have := H6.size; (try simp at this); omega
              go_wp2_with (fail)
              refine hK _ _ h6 ?_
              clear hK K
              refine Plan.left_q 21 (by rfl) (by kernel_rfl) ?_; go_big_quiet_step (fail); refine wpQuiet_nil ?_
              refine Plan.left_q 22 (by rfl) (by kernel_rfl) ?_; go_big_quiet_step (fail); refine wpQuiet_nil ?_
              refine Plan.left_q 23 (by rfl) (by kernel_rfl) ?_; go_big_quiet_step (fail); refine wpQuiet_nil ?_
              refine Plan.left_q 24 (by rfl) (by kernel_rfl) ?_; go_big_quiet_step (fail); refine wpQuiet_nil ?_
              refine Plan.left_q 26 (by rfl) (by kernel_rfl) ?_; go_big_quiet_step (fail); refine wpQuiet_nil ?_
              refine Plan.left_q 27 (by rfl) (by kernel_rfl) ?_; go_big_quiet_step (fail); refine wpQuiet_nil ?_
              refine Plan.left_q 28 (by rfl) (by kernel_rfl) ?_; go_big_quiet_step (fail); refine wpQuiet_nil ?_
              refine Plan.left_q 29 (by rfl) (by kernel_rfl) ?_; go_big_quiet_step (fail); refine wpQuiet_nil ?_
              refine Plan.left_q 30 (by rfl) (by kernel_rfl) ?_; go_big_quiet_step (fail); refine wpQuiet_nil ?_
              refine Plan.left_one 25 (by kernel_rfl) (by rfl) (Plan.want rfl fun K hK => ?_)
              go_wp2_with (fail)
              refine (both_c' _ x y _ (hm2.of H6)).mono ?_
              rintro e w7 ⟨rfl, h7⟩
              clear hc6 hf6 hs6_0 hs6_1
              have H7 := ExtM.trans _ _ _ H6 h7
              obtain ⟨hc7, hf7, -⟩ := Ext.rules H7
              have hs7_0 : A1 < w7.heap.size := by have := H7.size; (try simp at this); omega
              have hs7_1 : n6 < w7.heap.size := by have := H7.size; (try simp at this); omega
              go_wp2_with (fail)
              refine hK _ _ h7 ?_
              clear hK K
              refine Plan.left_q 31 (by rfl) (by kernel_rfl) ?_; go_big_quiet_step (fail); refine wpQuiet_nil ?_
              refine Plan.left_q 32 (by rfl) (by kernel_rfl) ?_; go_big_quiet_step (fail); refine wpQuiet_nil ?_
              refine Plan.left_done (by kernel_rfl) ?_
              have R1 := hm2.of H7
              have R2 := ha3.of H7
              have R3 : Ext w w7 := ExtM.trans _ _ _ hx2 H7
              go_wp2_with fail
              go_roundw
              case rel => exact ⟨k + 1, x, y, by omega, by go_num, R1, R2, R3⟩
              case measure => simp [intOf]; omega
          have e2 : decide (1099511627776 < T) = false := by simp [hhi]
          by_cases hor : T < y
          · have em : moveI 1 T x y = 10 := by simp only [moveI, hof]; rw [if_neg (by omega), if_neg (by omega), if_pos hor]
            have e3 : decide (T < y) = true := by simp [hor]
            go_wp2_with fail
            skip
            refine Plan.begin Plan.Ext 19 rfl (by kernel_rfl) ?_
            refine Plan.left_q 0 (by rfl) (by kernel_rfl) ?_; go_big_quiet_step (fail); refine wpQuiet_nil ?_
            refine Plan.left_q 1 (by rfl) (by kernel_rfl) ?_; go_big_quiet_step (fail); refine wpQuiet_nil ?_
            refine Plan.left_q 2 (by rfl) (by kernel_rfl) ?_; go_big_quiet_step (fail); refine wpQuiet_nil ?_
            refine Plan.left_q 3 (by rfl) (by kernel_rfl) ?_; go_big_quiet_step (fail); refine wpQuiet_nil ?_
            refine Plan.left_q 4 (by rfl) (by kernel_rfl) ?_; go_big_quiet_step (fail); refine wpQuiet_nil ?_
            refine Plan.left_q 6 (by rfl) (by kernel_rfl) ?_; go_big_quiet_step (fail); refine wpQuiet_nil ?_
            refine Plan.left_q 7 (by rfl) (by kernel_rfl) ?_; go_big_quiet_step (fail); refine wpQuiet_nil ?_
            refine Plan.left_q 8 (by rfl) (by kernel_rfl) ?_; go_big_quiet_step (fail); refine wpQuiet_nil ?_
            refine Plan.left_q 9 (by rfl) (by kernel_rfl) ?_; go_big_quiet_step (fail); refine wpQuiet_nil ?_
            refine Plan.left_one 5 (by kernel_rfl) (by rfl) (Plan.plain rfl fun K hK => ?_)
            go_wp2_with (fail)
            refine (late_c' _ _ _ x y _ _ (hm.of (((ExtM.refl wr).alloc _).drew)) hof).mono ?_
            rintro e w1 ⟨rfl, h1⟩
            have H1 := ExtM.trans _ _ _ (ExtM.refl _).drew h1
            obtain ⟨hc1, hf1, -⟩ := Ext.rules H1
            have hs1_0 : wr.heap.size < w1.heap.size := by have := H1.size; (try simp at this); omega
            go_wp2_with (fail)
            refine hK _ _ h1 ?_
            clear hK K
            refine Plan.left_q 10 (by rfl) (by kernel_rfl) ?_; go_big_quiet_step (fail); refine wpQuiet_nil ?_
            refine Plan.left_q 11 (by rfl) (by kernel_rfl) ?_; go_big_quiet_step (fail); refine wpQuiet_nil ?_
            refine Plan.left_q 12 (by rfl) (by kernel_rfl) ?_; go_big_quiet_step (fail); refine wpQuiet_nil ?_
            refine Plan.left_q 13 (by rfl) (by kernel_rfl) ?_; go_big_quiet_step (fail); refine wpQuiet_nil ?_
            refine Plan.left_q 14 (by rfl) (by kernel_rfl) ?_; go_big_quiet_step (fail); refine wpQuiet_nil ?_
            refine Plan.left_q 16 (by rfl) (by kernel_rfl) ?_; go_big_quiet_step (fail); refine wpQuiet_nil ?_
            refine Plan.left_one 15 (by kernel_rfl) (by rfl) (Plan.want rfl fun K hK => ?_)
            go_wp2_with (fail)
            refine (of_c' _ _ x y _ _ (hm.of (ExtM.trans _ _ _ ((ExtM.refl wr).alloc _) H1)) hof).mono ?_
            rintro e w2 ⟨rfl, h2⟩
            clear hc1 hf1 hs1_0
            have H2 := ExtM.trans _ _ _ H1 h2
            obtain ⟨hc2, hf2, -⟩ := Ext.rules H2
            have hs2_0 : wr.heap.size < w2.heap.size := by have := H2.size; (try simp at this); omega
            go_wp2_with (fail)
            refine hK _ _ h2 ?_
            clear hK K
            refine Plan.left_q 17 (by rfl) (by kernel_rfl) ?_; go_big_quiet_step (fail); refine wpQuiet_nil ?_
            refine Plan.left_q 18 (by rfl) (by kernel_rfl) ?_; go_big_quiet_step (fail); refine wpQuiet_nil ?_
            refine Plan.left_done (by kernel_rfl) ?_
            have hm2 := hm.of (ExtM.trans _ _ _ ((ExtM.refl wr).alloc _) H2)
            have ha2 := ha.of (ExtM.trans _ _ _ ((ExtM.refl wr).alloc _) H2)
            have hx2 : Ext w w2 := ExtM.trans _ _ _ (ExtM.trans _ _ _ hx ((ExtM.refl wr).alloc _)) H2
            have hcS : w2.cell? ⟨wr.heap.size, 0, none⟩ = some (.int .i64 1) := (hc2 _ _ (by simp)).trans (by go_simp)
            have hcT : w2.cell? ⟨wr.heap.size, 1, none⟩ = some (.int .i64 T) := (hc2 _ _ (by simp)).trans (by go_simp)
            clear hc2 hf2 H2 H1 h1 h2 hss htt hm ha hx hgr q0 q1 lA0
            generalize wr.heap.size = n6 at *
            have hgr := hg.of hx2
            have lA := ha2.lt
            have l6 : n6 < w2.heap.size := cell_lt hcS
            have ha3 := ha2
            obtain ⟨a0, a1, -, -⟩ := ha2
            go_wp2_with fail
            by_cases hxy : y < x
            all_goals
              refine Plan.begin Plan.Ext 33 rfl (by kernel_rfl) ?_
              refine Plan.left_q 0 (by rfl) (by kernel_rfl) ?_; go_big_quiet_step (fail); refine wpQuiet_nil ?_
              refine Plan.left_q 1 (by rfl) (by kernel_rfl) ?_; go_big_quiet_step (fail); refine wpQuiet_nil ?_
              refine Plan.left_q 2 (by rfl) (by kernel_rfl) ?_; go_big_quiet_step (fail); refine wpQuiet_nil ?_
              refine Plan.left_q 3 (by rfl) (by kernel_rfl) ?_; go_big_quiet_step (fail); refine wpQuiet_nil ?_
              refine Plan.left_q 4 (by rfl) (by kernel_rfl) ?_; go_big_quiet_step (fail); refine wpQuiet_nil ?_
              refine Plan.left_q 6 (by rfl) (by kernel_rfl) ?_; go_big_quiet_step (fail); refine wpQuiet_nil ?_
              refine Plan.left_one 5 (by kernel_rfl) (by rfl) (Plan.plain rfl fun K hK => ?_)
              go_wp2_with (fail)
              refine (move_err _ 1 T x y _ _ (hm2.of (ExtM.refl _).drew) em (by decide)).mono ?_
              rintro e w3 ⟨rfl, h3⟩
              have H3 := ExtM.trans _ _ _ (ExtM.refl _).drew h3
              obtain ⟨hc3, hf3, -⟩ := Ext.rules H3
              have hs3_0 : A1 < w3.heap.size := by have := H3.size; (try simp at this); omega
              have hs3_1 : n6 < w3.heap.size := by have := H3.size; (try simp at this); omega
              go_wp2_with (fail)
              refine hK _ _ h3 ?_
              clear hK K
              refine Plan.left_one 7 (by kernel_rfl) (by rfl) (Plan.plain rfl fun K hK => ?_)
              go_wp2_with (fail)
              refine (lbare_c' 10 10 _ (hgr.of H3) rfl).mono ?_
              rintro e w4 ⟨rfl, h4⟩
              clear hc3 hf3 hs3_0 hs3_1
              have H4 := ExtM.trans _ _ _ H3 h4
              obtain ⟨hc4, hf4, -⟩ := Ext.rules H4
              have hs4_0 : A1 < w4.heap.size := by have := H4.size; (try simp at this); omega
              have hs4_1 : n6 < w4.heap.size := by have := H4.size; (try simp at this); omega
              go_wp2_with (fail)
              refine hK _ _ h4 ?_
              clear hK K
              refine Plan.left_q 8 (by rfl) (by kernel_rfl) ?_; go_big_quiet_step (fail); refine wpQuiet_nil ?_
              refine Plan.left_q 9 (by rfl) (by kernel_rfl) ?_; go_big_quiet_step (fail); refine wpQuiet_nil ?_
              refine Plan.left_q 10 (by rfl) (by kernel_rfl) ?_; go_big_quiet_step (fail); refine wpQuiet_nil ?_
              refine Plan.left_q 12 (by rfl) (by kernel_rfl) ?_; go_big_quiet_step (fail); refine wpQuiet_nil ?_
              refine Plan.left_q 13 (by rfl) (by kernel_rfl) ?_; go_big_quiet_step (fail); refine wpQuiet_nil ?_
              refine Plan.left_one 11 (by kernel_rfl) (by rfl) (Plan.want rfl fun K hK => ?_)
              go_wp2_with (fail)
              refine (of_c' _ 0 x y x _ (hm2.of H4) rfl).mono ?_
              rintro e w5 ⟨rfl, h5⟩
              clear hc4 hf4 hs4_0 hs4_1
              have H5 := ExtM.trans _ _ _ H4 h5
              obtain ⟨hc5, hf5, -⟩ := Ext.rules H5
              have hs5_0 : A1 < w5.heap.size := by have := H5.size; (try simp at this); omega
              have hs5_1 : n6 < w5.heap.size := by have := H5.size; (try simp at this); omega
              go_wp2_with (fail)
              refine hK _ _ h5 ?_
              clear hK K
              refine Plan.left_q 14 (by rfl) (by kernel_rfl) ?_; go_big_quiet_step (fail); refine wpQuiet_nil ?_
              refine Plan.left_q 15 (by rfl) (by kernel_rfl) ?_; go_big_quiet_step (fail); refine wpQuiet_nil ?_
              refine Plan.left_q 16 (by rfl) (by kernel_rfl) ?_; go_big_quiet_step (fail); refine wpQuiet_nil ?_
              refine Plan.left_q 17 (by rfl) (by kernel_rfl) ?_; go_big_quiet_step (fail); refine wpQuiet_nil ?_
              refine Plan.left_q 19 (by rfl) (by kernel_rfl) ?_; go_big_quiet_step (fail); refine wpQuiet_nil ?_
              refine Plan.left_q 20 (by rfl) (by kernel_rfl) ?_; go_big_quiet_step (fail); refine wpQuiet_nil ?_
              refine Plan.left_one 18 (by kernel_rfl) (by rfl) (Plan.want rfl fun K hK => ?_)
              go_wp2_with (fail)
              refine (of_c' _ 1 x y y _ (hm2.of H5) rfl).mono ?_
              rintro e w6 ⟨rfl, h6⟩
              clear hc5 hf5 hs5_0 hs5_1
              have H6 := ExtM.trans _ _ _ H5 h6
              obtain ⟨hc6, hf6, -⟩ := Ext.rules H6
              have hs6_0 : A1 < w6.heap.size := by have := H6.size; (try simp at this); omega
              have hs6_1 : n6 < w6.heap.size := by have := H6.size; (try simp at this); omega
              go_wp2_with (fail)
              refine hK _ _ h6 ?_
              clear hK K
              refine Plan.left_q 21 (by rfl) (by kernel_rfl) ?_; go_big_quiet_step (fail); refine wpQuiet_nil ?_
              refine Plan.left_q 22 (by rfl) (by kernel_rfl) ?_; go_big_quiet_step (fail); refine wpQuiet_nil ?_
              refine Plan.left_q 23 (by rfl) (by kernel_rfl) ?_; go_big_quiet_step (fail); refine wpQuiet_nil ?_
              refine Plan.left_q 24 (by rfl) (by kernel_rfl) ?_; go_big_quiet_step (fail); refine wpQuiet_nil ?_
              refine Plan.left_q 26 (by rfl) (by kernel_rfl) ?_; go_big_quiet_step (fail); refine wpQuiet_nil ?_
              refine Plan.left_q 27 (by rfl) (by kernel_rfl) ?_; go_big_quiet_step (fail); refine wpQuiet_nil ?_
              refine Plan.left_q 28 (by rfl) (by kernel_rfl) ?_; go_big_quiet_step (fail); refine wpQuiet_nil ?_
              refine Plan.left_q 29 (by rfl) (by kernel_rfl) ?_; go_big_quiet_step (fail); refine wpQuiet_nil ?_
              refine Plan.left_q 30 (by rfl) (by kernel_rfl) ?_; go_big_quiet_step (fail); refine wpQuiet_nil ?_
              refine Plan.left_one 25 (by kernel_rfl) (by rfl) (Plan.want rfl fun K hK => ?_)
              go_wp2_with (fail)
              refine (both_c' _ x y _ (hm2.of H6)).mono ?_
              rintro e w7 ⟨rfl, h7⟩
              clear hc6 hf6 hs6_0 hs6_1
              have H7 := ExtM.trans _ _ _ H6 h7
              obtain ⟨hc7, hf7, -⟩ := Ext.rules H7
              have hs7_0 : A1 < w7.heap.size := by have := H7.size; (try simp at this); omega
              have hs7_1 : n6 < w7.heap.size := by have := H7.size; (try simp at this); omega
              go_wp2_with (fail)
              refine hK _ _ h7 ?_
              clear hK K
              refine Plan.left_q 31 (by rfl) (by kernel_rfl) ?_; go_big_quiet_step (fail); refine wpQuiet_nil ?_
              refine Plan.left_q 32 (by rfl) (by kernel_rfl) ?_; go_big_quiet_step (fail); refine wpQuiet_nil ?_
              refine Plan.left_done (by kernel_rfl) ?_
              have R1 := hm2.of H7
              have R2 := ha3.of H7
              have R3 : Ext w w7 := ExtM.trans _ _ _ hx2 H7
              go_wp2_with fail
              go_roundw
              case rel => exact ⟨k + 1, x, y, by omega, by go_num, R1, R2, R3⟩
              case measure => simp [intOf]; omega
          have e3 : decide (T < y) = false := by simp [hor]
          have em : moveI 1 T x y = 0 := by simp only [moveI, hof]; rw [if_neg (by omega), if_neg (by omega), if_neg hor]
          go_wp2_with fail
          refine Plan.begin Plan.Ext 19 rfl (by kernel_rfl) ?_
          refine Plan.left_q 0 (by rfl) (by kernel_rfl) ?_; go_big_quiet_step (fail); refine wpQuiet_nil ?_
          refine Plan.left_q 1 (by rfl) (by kernel_rfl) ?_; go_big_quiet_step (fail); refine wpQuiet_nil ?_
          refine Plan.left_q 2 (by rfl) (by kernel_rfl) ?_; go_big_quiet_step (fail); refine wpQuiet_nil ?_
          refine Plan.left_q 3 (by rfl) (by kernel_rfl) ?_; go_big_quiet_step (fail); refine wpQuiet_nil ?_
          refine Plan.left_q 4 (by rfl) (by kernel_rfl) ?_; go_big_quiet_step (fail); refine wpQuiet_nil ?_
          refine Plan.left_q 6 (by rfl) (by kernel_rfl) ?_; go_big_quiet_step (fail); refine wpQuiet_nil ?_
          refine Plan.left_q 7 (by rfl) (by kernel_rfl) ?_; go_big_quiet_step (fail); refine wpQuiet_nil ?_
          refine Plan.left_q 8 (by rfl) (by kernel_rfl) ?_; go_big_quiet_step (fail); refine wpQuiet_nil ?_
          refine Plan.left_q 9 (by rfl) (by kernel_rfl) ?_; go_big_quiet_step (fail); refine wpQuiet_nil ?_
          refine Plan.left_one 5 (by kernel_rfl) (by rfl) (Plan.plain rfl fun K hK => ?_)
          go_wp2_with (fail)
          refine (late_c' _ _ _ x y _ _ (hm.of (((ExtM.refl wr).alloc _).drew)) hof).mono ?_
          rintro e w1 ⟨rfl, h1⟩
          have H1 := ExtM.trans _ _ _ (ExtM.refl _).drew h1
          obtain ⟨hc1, hf1, -⟩ := Ext.rules H1
          have hs1_0 : wr.heap.size < w1.heap.size := by have := H1.size; (try simp at this); omega
          go_wp2_with (fail)
          refine hK _ _ h1 ?_
          clear hK K
          refine Plan.left_q 10 (by rfl) (by kernel_rfl) ?_; go_big_quiet_step (fail); refine wpQuiet_nil ?_
          refine Plan.left_q 11 (by rfl) (by kernel_rfl) ?_; go_big_quiet_step (fail); refine wpQuiet_nil ?_
          refine Plan.left_q 12 (by rfl) (by kernel_rfl) ?_; go_big_quiet_step (fail); refine wpQuiet_nil ?_
          refine Plan.left_q 13 (by rfl) (by kernel_rfl) ?_; go_big_quiet_step (fail); refine wpQuiet_nil ?_
          refine Plan.left_q 14 (by rfl) (by kernel_rfl) ?_; go_big_quiet_step (fail); refine wpQuiet_nil ?_
          refine Plan.left_q 16 (by rfl) (by kernel_rfl) ?_; go_big_quiet_step (fail); refine wpQuiet_nil ?_
          refine Plan.left_one 15 (by kernel_rfl) (by rfl) (Plan.want rfl fun K hK => ?_)
          go_wp2_with (fail)
          refine (of_c' _ _ x y _ _ (hm.of (ExtM.trans _ _ _ ((ExtM.refl wr).alloc _) H1)) hof).mono ?_
          rintro e w2 ⟨rfl, h2⟩
          clear hc1 hf1 hs1_0
          have H2 := ExtM.trans _ _ _ H1 h2
          obtain ⟨hc2, hf2, -⟩ := Ext.rules H2
          have hs2_0 : wr.heap.size < w2.heap.size := by have := H2.size; (try simp at this); omega
          go_wp2_with (fail)
          refine hK _ _ h2 ?_
          clear hK K
          refine Plan.left_q 17 (by rfl) (by kernel_rfl) ?_; go_big_quiet_step (fail); refine wpQuiet_nil ?_
          refine Plan.left_q 18 (by rfl) (by kernel_rfl) ?_; go_big_quiet_step (fail); refine wpQuiet_nil ?_
          refine Plan.left_done (by kernel_rfl) ?_
          have hm2 := hm.of (ExtM.trans _ _ _ ((ExtM.refl wr).alloc _) H2)
          have ha2 := ha.of (ExtM.trans _ _ _ ((ExtM.refl wr).alloc _) H2)
          have hx2 : Ext w w2 := ExtM.trans _ _ _ (ExtM.trans _ _ _ hx ((ExtM.refl wr).alloc _)) H2
          have hcS : w2.cell? ⟨wr.heap.size, 0, none⟩ = some (.int .i64 1) := (hc2 _ _ (by simp)).trans (by go_simp)
          have hcT : w2.cell? ⟨wr.heap.size, 1, none⟩ = some (.int .i64 T) := (hc2 _ _ (by simp)).trans (by go_simp)
          clear hc2 hf2 H2 H1 h1 h2 hss htt hm ha hx hgr q0 q1
          generalize wr.heap.size = n6 at *
          have hgr := hg.of hx2
          have lA := ha2.lt
          have l6 : n6 < w2.heap.size := cell_lt hcS
          obtain ⟨b0, b1, -, -⟩ := id hm2
          obtain ⟨a0, a1, g0, g1⟩ := id ha2
          go_wp2_with fail
          have hA3 : Mk (w2.setCell ⟨A1, 1, none⟩ (.int .i64 T)) A1 x T := ha2.set1 T
          have hX3 : Ext w (w2.setCell ⟨A1, 1, none⟩ (.int .i64 T)) := ExtM.setCell hx2 (p := ⟨A1, 1, none⟩) (Or.inl (Nat.le_of_lt hN)) _
          have kA : ExtB A1 w2 (w2.setCell ⟨A1, 1, none⟩ (.int .i64 T)) := ExtB.set _ _
          have hB3 := hm2.ofB kA (by omega)
          have hg3 := hgr.ofB kA (by omega)
          have cS3 := (kA.rules.1 n6 0 l6 (by omega)).trans hcS
          have cT3 := (kA.rules.1 n6 1 l6 (by omega)).trans hcT
          clear kA hcS hcT hgr lA l6 hm2 ha2 hx2 hs2_0 b0 b1 a0 a1 g0 g1
          generalize w2.setCell ⟨A1, 1, none⟩ (.int .i64 T) = w3 at *
          obtain ⟨a0, a1, -, -⟩ := id hA3
          have lA := hA3.lt
          have l6 : n6 < w3.heap.size := cell_lt cS3
          have nB6 : ¬ n6 = w.heap.size := by omega
          have nBA : ¬ A1 = w.heap.size := by omega
          by_cases hxy : T < x
          all_goals
            refine Plan.begin (Plan.ExtB w.heap.size) 33 rfl (by kernel_rfl) ?_
            refine Plan.left_q 0 (by rfl) (by kernel_rfl) ?_; go_big_quiet_step (fail); refine wpQuiet_nil ?_
            refine Plan.left_q 1 (by rfl) (by kernel_rfl) ?_; go_big_quiet_step (fail); refine wpQuiet_nil ?_
            refine Plan.left_q 2 (by rfl) (by kernel_rfl) ?_; go_big_quiet_step (fail); refine wpQuiet_nil ?_
            refine Plan.left_q 3 (by rfl) (by kernel_rfl) ?_; go_big_quiet_step (fail); refine wpQuiet_nil ?_
            refine Plan.left_q 4 (by rfl) (by kernel_rfl) ?_; go_big_quiet_step (fail); refine wpQuiet_nil ?_
            refine Plan.left_q 6 (by rfl) (by kernel_rfl) ?_; go_big_quiet_step (fail); refine wpQuiet_nil ?_
            refine Plan.left_one 5 (by kernel_rfl) (by rfl) (Plan.plain rfl fun K hK => ?_)
            go_wp2_with (fail)
            refine (move_ok1 _ T x y _ (hB3.of (ExtM.refl _).drew) em).mono ?_
            rintro e w4 ⟨rfl, ⟨h4, k4⟩⟩
            have H4 := ExtB.trans _ _ _ (ExtB.of_ext (ExtM.refl _).drew) h4
            obtain ⟨hc4, hf4, -⟩ := ExtB.rules H4
            have hs4_0 : A1 < w4.heap.size := by have := H4.size; (try simp at this); omega
            have hs4_1 : n6 < w4.heap.size := by have := H4.size; (try simp at this); omega
            go_wp2_with (fail)
            refine hK _ _ h4 ?_
            clear hK K
            refine Plan.left_one 7 (by kernel_rfl) (by rfl) (Plan.plain rfl fun K hK => ?_)
            go_wp2_with (fail)
            refine (lbare_nil' _).mono ?_
            rintro e w5 ⟨rfl, h5⟩
            clear hc4 hf4 hs4_0 hs4_1
            have H5 := ExtB.trans _ _ _ H4 (ExtB.of_ext h5)
            obtain ⟨hc5, hf5, -⟩ := ExtB.rules H5
            have hs5_0 : A1 < w5.heap.size := by have := H5.size; (try simp at this); omega
            have hs5_1 : n6 < w5.heap.size := by have := H5.size; (try simp at this); omega
            go_wp2_with (fail)
            refine hK _ _ (ExtB.of_ext h5) ?_
            clear hK K
            refine Plan.left_q 8 (by rfl) (by kernel_rfl) ?_; go_big_quiet_step (fail); refine wpQuiet_nil ?_
            refine Plan.left_q 9 (by rfl) (by kernel_rfl) ?_; go_big_quiet_step (fail); refine wpQuiet_nil ?_
            refine Plan.left_q 10 (by rfl) (by kernel_rfl) ?_; go_big_quiet_step (fail); refine wpQuiet_nil ?_
            refine Plan.left_q 12 (by rfl) (by kernel_rfl) ?_; go_big_quiet_step (fail); refine wpQuiet_nil ?_
            refine Plan.left_q 13 (by rfl) (by kernel_rfl) ?_; go_big_quiet_step (fail); refine wpQuiet_nil ?_
            refine Plan.left_one 11 (by kernel_rfl) (by rfl) (Plan.want rfl fun K hK => ?_)
            go_wp2_with (fail)
            refine (of_c' _ 0 x T x _ (k4.of h5) rfl).mono ?_
            rintro e w6 ⟨rfl, h6⟩
            clear hc5 hf5 hs5_0 hs5_1
            have H6 := ExtB.trans _ _ _ H5 (ExtB.of_ext h6)
            obtain ⟨hc6, hf6, -⟩ := ExtB.rules H6
            have hs6_0 : A1 < w6.heap.size := by have := H6.size; (try simp at this); omega
            have hs6_1 : n6 < w6.heap.size := by have := H6.size; (try simp at this); omega
            go_wp2_with (fail)
            refine hK _ _ (ExtB.of_ext h6) ?_
            clear hK K
            refine Plan.left_q 14 (by rfl) (by kernel_rfl) ?_; go_big_quiet_step (fail); refine wpQuiet_nil ?_
            refine Plan.left_q 15 (by rfl) (by kernel_rfl) ?_; go_big_quiet_step (fail); refine wpQuiet_nil ?_
            refine Plan.left_q 16 (by rfl) (by kernel_rfl) ?_; go_big_quiet_step (fail); refine wpQuiet_nil ?_
            refine Plan.left_q 17 (by rfl) (by kernel_rfl) ?_; go_big_quiet_step (fail); refine wpQuiet_nil ?_
            refine Plan.left_q 19 (by rfl) (by kernel_rfl) ?_; go_big_quiet_step (fail); refine wpQuiet_nil ?_
            refine Plan.left_q 20 (by rfl) (by kernel_rfl) ?_; go_big_quiet_step (fail); refine wpQuiet_nil ?_
            refine Plan.left_one 18 (by kernel_rfl) (by rfl) (Plan.want rfl fun K hK => ?_)
            go_wp2_with (fail)
            refine (of_c' _ 1 x T T _ ((k4.of h5).of h6) rfl).mono ?_
            rintro e w7 ⟨rfl, h7⟩
            clear hc6 hf6 hs6_0 hs6_1
            have H7 := ExtB.trans _ _ _ H6 (ExtB.of_ext h7)
            obtain ⟨hc7, hf7, -⟩ := ExtB.rules H7
            have hs7_0 : A1 < w7.heap.size := by have := H7.size; (try simp at this); omega
            have hs7_1 : n6 < w7.heap.size := by have := H7.size; (try simp at this); omega
            go_wp2_with (fail)
            refine hK _ _ (ExtB.of_ext h7) ?_
            clear hK K
            refine Plan.left_q 21 (by rfl) (by kernel_rfl) ?_; go_big_quiet_step (fail); refine wpQuiet_nil ?_
            refine Plan.left_q 22 (by rfl) (by kernel_rfl) ?_; go_big_quiet_step (fail); refine wpQuiet_nil ?_
            refine Plan.left_q 23 (by rfl) (by kernel_rfl) ?_; go_big_quiet_step (fail); refine wpQuiet_nil ?_
            refine Plan.left_q 24 (by rfl) (by kernel_rfl) ?_; go_big_quiet_step (fail); refine wpQuiet_nil ?_
            refine Plan.left_q 26 (by rfl) (by kernel_rfl) ?_; go_big_quiet_step (fail); refine wpQuiet_nil ?_
            refine Plan.left_q 27 (by rfl) (by kernel_rfl) ?_; go_big_quiet_step (fail); refine wpQuiet_nil ?_
            refine Plan.left_q 28 (by rfl) (by kernel_rfl) ?_; go_big_quiet_step (fail); refine wpQuiet_nil ?_
            refine Plan.left_q 29 (by rfl) (by kernel_rfl) ?_; go_big_quiet_step (fail); refine wpQuiet_nil ?_
            refine Plan.left_q 30 (by rfl) (by kernel_rfl) ?_; go_big_quiet_step (fail); refine wpQuiet_nil ?_
            refine Plan.left_one 25 (by kernel_rfl) (by rfl) (Plan.want rfl fun K hK => ?_)
            go_wp2_with (fail)
            refine (both_c' _ x T _ (((k4.of h5).of h6).of h7)).mono ?_
            rintro e w8 ⟨rfl, h8⟩
            clear hc7 hf7 hs7_0 hs7_1
            have H8 := ExtB.trans _ _ _ H7 (ExtB.of_ext h8)
            obtain ⟨hc8, hf8, -⟩ := ExtB.rules H8
            have hs8_0 : A1 < w8.heap.size := by have := H8.size; (try simp at this); omega
            have hs8_1 : n6 < w8.heap.size := by have := H8.size; (try simp at this); omega
            go_wp2_with (fail)
            refine hK _ _ (ExtB.of_ext h8) ?_
            clear hK K
            refine Plan.left_q 31 (by rfl) (by kernel_rfl) ?_; go_big_quiet_step (fail); refine wpQuiet_nil ?_
            refine Plan.left_q 32 (by rfl) (by kernel_rfl) ?_; go_big_quiet_step (fail); refine wpQuiet_nil ?_
            refine Plan.left_done (by kernel_rfl) ?_
            have R1 := (((k4.of h5).of h6).of h7).of h8
            have R2 := hA3.ofB H8 (by omega)
            have R3 : Ext w w8 := ext_ofB hX3 H8
            go_wp2_with fail
            go_roundw
            case rel => exact ⟨k + 1, x, T, by omega, by go_num, R1, R2, R3⟩
            case measure => simp [intOf]; omega
    · have d1 : decide ((k : Int) < len) = false := by simp; omega
      clear hs ht
      go_wp2_with fail
      go_ret
      exact ⟨rfl, hx⟩

set_option maxRecDepth 100000 in
theorem markPlays_0 (p : Option Addr) (cap : Nat) (w : World) : Calls Tryd.prog 3 #[.slice p 0 cap] w fun e w' => e = .returned (.bool true) ∧ Ext w w' := by
  go_enter Tryd.func3, Tryd.ntmps3
  go_wp2_with fail
  refine (new_c _).mono ?_
  rintro e w1 ⟨rfl, h1, hm⟩
  go_wp2_with fail
  refine wp_loop_once ?_
  go_wp2_with fail
  go_ret
  exact ⟨rfl, h1.alloc _⟩
end Go.Proofs.YtggjceolhbdalaaDoor
