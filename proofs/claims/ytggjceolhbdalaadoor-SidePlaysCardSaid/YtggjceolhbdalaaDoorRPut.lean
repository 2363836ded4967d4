/- The reference's Put. -/
import Derived.Test.YtggjceolhbdalaaDoorRJoin
namespace Go.Proofs.YtggjceolhbdalaaDoor
open Go.RowKit Go.Plan

/-- A side of the reference's join behind a Put. -/
def putL (L : List RHd) (x : Hd) (came : Int) : List RHd := if addE (L.map RHd.hd) x = 0 then L ++ [⟨x.r, x.m, came + 1⟩] else L
def putN (L : List RHd) (x : Hd) (came : Int) : Int := if addE (L.map RHd.hd) x = 0 then came + 1 else came
structure RJUp (w w' : World) (J s : Nat) (v : Value) (L' : List RHd) (came' : Int) : Prop where
  is : ∃ v', RJ w' J s v' L' came' ∧ (v'.ownBlock = v.ownBlock ∨ ∃ k, v'.ownBlock = some k ∧ w.heap.size ≤ k)
  ext : ExtM (fun k => k = J) w w'
  cell : ∀ o, o ≠ 3 + s → o ≠ 8 → w'.cell? ⟨J, o, none⟩ = w.cell? ⟨J, o, none⟩
theorem RJ.lt {w : World} {J s : Nat} {v : Value} {L : List RHd} {came : Int} (h : RJ w J s v L came) : J < w.heap.size := by
  have := h.c8
  unfold World.cell? at this
  split at this
  · rename_i hb; exact (Array.getElem?_eq_some_iff.1 hb).1
  · cases this
theorem RJ.ext {w w' : World} {J s : Nat} {v : Value} {L : List RHd} {came : Int} (h : RJ w J s v L came) (hx : Ext w w') : RJ w' J s v L came :=
  ⟨h.hs, (hx.cell (p := ⟨J, _, none⟩) h.lt id).trans h.c3, (hx.cell (p := ⟨J, _, none⟩) h.lt id).trans h.c8, fun o => (hx.frozen (p := ⟨J, o, none⟩) h.lt id).trans (h.f3 o), h.row.extF hx, h.own⟩
theorem RJUp.same {w w' : World} {J s : Nat} {v : Value} {L : List RHd} {came : Int} (h : RJ w J s v L came) (hx : Ext w w') : RJUp w w' J s v L came :=
  ⟨⟨v, h.ext hx, .inl rfl⟩, hx.mono (fun _ _ h => h.elim), fun o _ _ => hx.cell (p := ⟨J, o, none⟩) h.lt id⟩

theorem JRow.slice {w : World} {b : Nat} {v : Value} {L : List RHd} (h : JRow w b v L) : ∃ p cap, v = .slice p L.length cap := by
  obtain ⟨p, cap, e, -⟩ := own_slice h
  exact ⟨p, cap, e⟩


set_option maxRecDepth 100000 in
set_option maxHeartbeats 4000000 in
theorem rputBad_c (J s : Nat) (v : Value) (L : List RHd) (came k t q m : Int) (w : World) (h : RJ w J s v L came) (hb : (goodB k t q && decide (0 ≤ m)) = false) :
    Calls Tryd.prog 30 #[.pointer (some ⟨J, 0, none⟩), .int .i64 (s : Int), .agg #[.int .i64 k, .int .i64 t, .int .i64 q], .int .i64 m] w fun e w' => e = .returned (.int .i64 1) ∧ RJUp w w' J s v L came := by
  have hin : decide ((0 : Int) ≤ (s : Int) ∧ (s : Int) ≤ 1) = true := by simp; have := h.hs; omega
  have hs2 := h.hs
  have hx0 : Ext w (w.alloc (.cells #[.int .i64 k, .int .i64 t, .int .i64 q] 43)) := (ExtM.refl w).alloc _
  cases hg : goodB k t q with
  | false =>
    go_enter Tryd.func30, Tryd.ntmps30
    go_wp2_with (first
      | (go_at_call 51; refine (rin_c _ _ _ _).mono ?_; rintro e w1 ⟨rfl, rfl⟩; rw [hin])
      | (go_at_call 52; refine (rgood_c _ _ _ _).mono ?_; rintro e w1 ⟨rfl, hx⟩; rw [hg]))
    go_ret
    exact ⟨rfl, RJUp.same h (ExtM.trans _ _ _ hx0 hx)⟩
  | true =>
    have hd1 : decide (m < 0) = true := by
      rw [hg] at hb
      simp at hb ⊢
      omega
    go_enter Tryd.func30, Tryd.ntmps30
    go_wp2_with (first
      | (go_at_call 51; refine (rin_c _ _ _ _).mono ?_; rintro e w1 ⟨rfl, rfl⟩; rw [hin])
      | (go_at_call 52; refine (rgood_c _ _ _ _).mono ?_; rintro e w1 ⟨rfl, hx⟩; rw [hg]))
    go_ret
    exact ⟨rfl, RJUp.same h (ExtM.trans _ _ _ hx0 hx)⟩

set_option maxRecDepth 100000 in
set_option maxHeartbeats 4000000 in
theorem rputFull_c (J s : Nat) (v : Value) (L : List RHd) (came k t q m : Int) (w : World) (h : RJ w J s v L came) (hg : goodB k t q = true) (hm : 0 ≤ m) (hl : 300 ≤ L.length) :
    Calls Tryd.prog 30 #[.pointer (some ⟨J, 0, none⟩), .int .i64 (s : Int), .agg #[.int .i64 k, .int .i64 t, .int .i64 q], .int .i64 m] w fun e w' => e = .returned (.int .i64 12) ∧ RJUp w w' J s v L came := by
  have hin : decide ((0 : Int) ≤ (s : Int) ∧ (s : Int) ≤ 1) = true := by simp; have := h.hs; omega
  have hs2 := h.hs
  have hx0 : Ext w (w.alloc (.cells #[.int .i64 k, .int .i64 t, .int .i64 q] 43)) := (ExtM.refl w).alloc _
  have hd1 : decide (m < 0) = false := by simp; omega
  have hd2 : decide ((300 : Int) ≤ (L.length : Int)) = true := by simp; omega
  obtain ⟨p, cap, rfl⟩ := h.row.slice
  have h0 := h
  clear h
  go_enter Tryd.func30, Tryd.ntmps30
  go_wp2_with (first
    | (go_at_call 51; refine (rin_c _ _ _ _).mono ?_; rintro e w1 ⟨rfl, rfl⟩; rw [hin])
    | (go_at_call 52; refine (rgood_c _ _ _ _).mono ?_; rintro e w1 ⟨rfl, hx⟩; rw [hg]; have c1 := ((h0.ext hx0).ext hx).c3))
  go_ret
  exact ⟨rfl, RJUp.same h0 (ExtM.trans _ _ _ hx0 hx)⟩

set_option maxRecDepth 100000 in
set_option maxHeartbeats 4000000 in
theorem rputIn_c (J s : Nat) (v : Value) (L : List RHd) (came k t q m : Int) (w : World) (h : RJ w J s v L came) (hg : goodB k t q = true) (hm : 0 ≤ m) (hl : L.length < 300) (hc : 0 ≤ came ∧ came < 1000000) :
    Calls Tryd.prog 30 #[.pointer (some ⟨J, 0, none⟩), .int .i64 (s : Int), .agg #[.int .i64 k, .int .i64 t, .int .i64 q], .int .i64 m] w fun e w' => e = .returned (.int .i64 0) ∧ RJUp w w' J s v (L ++ [⟨⟨k, t, q⟩, m, came + 1⟩]) (came + 1) := by
  have hin : decide ((0 : Int) ≤ (s : Int) ∧ (s : Int) ≤ 1) = true := by simp; have := h.hs; omega
  have hs2 := h.hs
  have hx0 : Ext w (w.alloc (.cells #[.int .i64 k, .int .i64 t, .int .i64 q] 43)) := (ExtM.refl w).alloc _
  have hd1 : decide (m < 0) = false := by simp; omega
  have hd2 : decide ((300 : Int) ≤ (L.length : Int)) = false := by simp; omega
  obtain ⟨p, cap, rfl⟩ := h.row.slice
  have h0 := h
  have hlt := h.lt
  clear h
  go_enter Tryd.func30, Tryd.ntmps30
  go_wp2_with (first
    | (go_at_call 51; refine (rin_c _ _ _ _).mono ?_; rintro e w1 ⟨rfl, rfl⟩; rw [hin])
    | (go_at_call 52
       refine (rgood_c _ _ _ _).mono ?_
       rintro e w1 ⟨rfl, hx⟩
       rw [hg]
       have h1 := (h0.ext hx0).ext hx
       have hxx : Ext w w1 := ExtM.trans _ _ _ hx0 hx
       have c1 := h1.c3
       have b0 : w1.cell? ⟨w.heap.size, 0, none⟩ = some (.int .i64 k) := (hx.rules.1 _ _ (by simp)).trans (by go_simp)
       have b1 : w1.cell? ⟨w.heap.size, 1, none⟩ = some (.int .i64 t) := (hx.rules.1 _ _ (by simp)).trans (by go_simp)
       have b2 : w1.cell? ⟨w.heap.size, 2, none⟩ = some (.int .i64 q) := (hx.rules.1 _ _ (by simp)).trans (by go_simp)
       clear hx)
    | (go_at_call 53
       refine (put_c J s _ L came k t q m _ h1 (by omega) hc).mono ?_
       rintro e w2 ⟨rfl, hx2, v', hr, ⟨k', hk', hk2⟩, hce⟩))
  go_ret
  have hsz := hxx.size
  exact ⟨rfl, ⟨⟨v', hr, .inr ⟨k', hk', by omega⟩⟩, ExtM.trans _ _ _ (hxx.mono (fun _ _ h => h.elim)) hx2, fun o ho1 ho2 => (hce o ho1 ho2).trans (hxx.cell (p := ⟨J, o, none⟩) hlt id)⟩⟩

theorem rput_c (J s : Nat) (v : Value) (L : List RHd) (came : Int) (x : Hd) (w : World) (h : RJ w J s v L came) (hc : 0 ≤ came ∧ came < 1000000) :
    Calls Tryd.prog 30 #[.pointer (some ⟨J, 0, none⟩), .int .i64 (s : Int), .agg #[.int .i64 x.r.k, .int .i64 x.r.t, .int .i64 x.r.v], .int .i64 x.m] w fun e w' => e = .returned (.int .i64 (addE (L.map RHd.hd) x)) ∧ RJUp w w' J s v (putL L x came) (putN L x came) := by
  unfold putL putN addE
  rw [List.length_map]
  split
  · rename_i hb
    exact rputBad_c J s v L came _ _ _ _ w h hb
  · rename_i hb
    have hg : goodB x.r.k x.r.t x.r.v = true ∧ 0 ≤ x.m := by simpa using hb
    split
    · rename_i hf
      exact rputFull_c J s v L came _ _ _ _ w h hg.1 hg.2 hf
    · rename_i hf
      exact rputIn_c J s v L came _ _ _ _ w h hg.1 hg.2 (by omega) hc
end Go.Proofs.YtggjceolhbdalaaDoor
