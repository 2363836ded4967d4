/- slices.BinarySearchFunc over held rows; Side.from. -/
import Derived.Test.YtmcgnnmffeojpaaGreatDoorPk15
import Derived.Deep.LoopGhost
namespace Go.Proofs.YtmcgnnmffeojpaaGreatDoor
open Go.RowKit Go.Plan

/-- A row is ahead of a key and a time. -/
def aheadB (key time : Int) (h : Hd) : Bool := decide (compareI h.r.k h.r.t 0 key time 0 < 0)

set_option maxRecDepth 100000 in
set_option maxHeartbeats 4000000 in
theorem fromCmp_c (a b c m key time val : Int) (w : World) :
    Calls Tryz.prog 144 #[.agg #[.int .i64 a, .int .i64 b, .int .i64 c, .int .i64 m], .agg #[.int .i64 key, .int .i64 time, .int .i64 val]] w fun e w' => e = .returned (.int .i64 (if compareI a b 0 key time 0 < 0 then -1 else 1)) ∧ Ext w w' := by
  by_cases hq : compareI a b 0 key time 0 < 0
  · rw [if_pos hq]
    go_enter Tryz.func144, Tryz.ntmps144
    go_wp2_with (go_at_call 93; refine (compare_c _ _ _ _ _ _ _).mono ?_; rintro e w1 ⟨rfl, hx⟩)
    go_ret
    exact ⟨rfl, ExtM.trans _ _ _ (((ExtM.refl _).alloc _).alloc _) hx⟩
  · rw [if_neg hq]
    go_enter Tryz.func144, Tryz.ntmps144
    go_wp2_with (go_at_call 93; refine (compare_c _ _ _ _ _ _ _).mono ?_; rintro e w1 ⟨rfl, hx⟩)
    go_ret
    exact ⟨rfl, ExtM.trans _ _ _ (((ExtM.refl _).alloc _).alloc _) hx⟩

theorem fromCmp_h (h : Hd) (key time val : Int) (w : World) :
    Calls Tryz.prog 144 #[.agg #[.int .i64 h.r.k, .int .i64 h.r.t, .int .i64 h.r.v, .int .i64 h.m], .agg #[.int .i64 key, .int .i64 time, .int .i64 val]] w fun e w' => e = .returned (.int .i64 (if aheadB key time h = true then -1 else 1)) ∧ Ext w w' := by
  have := fromCmp_c h.r.k h.r.t h.r.v h.m key time val w
  unfold aheadB
  by_cases hq : compareI h.r.k h.r.t 0 key time 0 < 0
  · simpa [hq] using this
  · simpa [hq] using this

/-- The cells of one row. -/
structure HCell (w : World) (g j : Nat) (h : Hd) : Prop where
  e0 : w.cell? ⟨g, j * 4, none⟩ = some (.int .i64 h.r.k)
  e1 : w.cell? ⟨g, j * 4 + 1, none⟩ = some (.int .i64 h.r.t)
  e2 : w.cell? ⟨g, j * 4 + 2, none⟩ = some (.int .i64 h.r.v)
  e3 : w.cell? ⟨g, j * 4 + 3, none⟩ = some (.int .i64 h.m)
  fz : ∀ o, w.frozen? ⟨g, o, none⟩ = false
theorem HRow.ext {w w' : World} {v : Value} {hs : List Hd} {M : Nat → Prop} (h : HRow w v hs) (hx : ExtM M w w') (hM : ∀ k, v.ownBlock = some k → ¬ M k) : HRow w' v hs := own_ext h hx hM
theorem HRow.at' {w : World} {p : Option Addr} {cap : Nat} {hs : List Hd} (h : HRow w (.slice p hs.length cap) hs) (j : Nat) (hj : j < hs.length) : ∃ g, p = some ⟨g, 0, none⟩ ∧ g < w.heap.size ∧ HCell w g j (hs[j]'hj) := by
  obtain ⟨g, cap', he, hlt, hc0, -⟩ := own_cell hd_len h j 0 hj (by omega)
  injection he with hp hn hcap
  obtain ⟨g1, cap1, he1, -, hc1, -⟩ := own_cell hd_len h j 1 hj (by omega)
  injection he1 with hp1; rw [hp] at hp1; obtain rfl : g = g1 := by injection hp1 with hp1; injection hp1
  obtain ⟨g1, cap1, he1, -, hc2, -⟩ := own_cell hd_len h j 2 hj (by omega)
  injection he1 with hp1; rw [hp] at hp1; obtain rfl : g = g1 := by injection hp1 with hp1; injection hp1
  obtain ⟨g1, cap1, he1, -, hc3, -⟩ := own_cell hd_len h j 3 hj (by omega)
  injection he1 with hp1; rw [hp] at hp1; obtain rfl : g = g1 := by injection hp1 with hp1; injection hp1
  refine ⟨g, hp, hlt, hc0, hc1, hc2, hc3, fun o => ?_⟩
  rcases h.2 with ⟨h1, -⟩ | ⟨g', cap2, cur, h1, -, h2, -⟩
  · rw [hp] at h1; cases h1
  · rw [hp] at h1
    injection h1 with h1
    injection h1 with h1
    injection h1 with h1
    subst h1
    simp [World.frozen?, h2]

set_option maxRecDepth 100000 in
set_option maxHeartbeats 4000000 in
theorem bsearch_h (v : Value) (hs : List Hd) (key time val : Int) (w : World) (h : HRow w v hs) (hl : hs.length < 1000000)
    (hmono : ∀ a b (ha : a < hs.length) (hb : b < hs.length), a ≤ b → aheadB key time hs[b] = true → aheadB key time hs[a] = true) :
    Calls Tryz.prog 143 #[v, .agg #[.int .i64 key, .int .i64 time, .int .i64 val], .func (.func 144) #[] #[]] w fun e w' =>
      ∃ (k : Nat) (b : Bool), e = .returned (.tuple #[.int .i64 k, .bool b]) ∧ k ≤ hs.length ∧ (∀ i (hi : i < hs.length), aheadB key time hs[i] = decide (i < k)) ∧ Ext w w' := by
  obtain ⟨p, cap, rfl, -⟩ := own_slice h
  have hvl : ∀ k, (Value.slice p hs.length cap).ownBlock = some k → k < w.heap.size := fun k hk => (own_lt h k hk).2
  go_enter Tryz.func143, Tryz.ntmps143
  go_wp2
  go_loopg [9, 10] hs.length (fun kx s9 s10 wr => ∃ lo hi : Nat, s9 = .int .i64 lo ∧ s10 = .int .i64 hi ∧ lo ≤ hi ∧ hi ≤ hs.length ∧ hi - lo ≤ kx ∧ Ext w wr ∧ wr.cell? ⟨w.heap.size, 0, none⟩ = some (.int .i64 key) ∧ wr.cell? ⟨w.heap.size, 1, none⟩ = some (.int .i64 time) ∧ wr.cell? ⟨w.heap.size, 2, none⟩ = some (.int .i64 val) ∧ w.heap.size < wr.heap.size ∧
    (∀ t (ht : t < hs.length), t < lo → aheadB key time hs[t] = true) ∧ (∀ t (ht : t < hs.length), hi ≤ t → aheadB key time hs[t] = false))
  case atStart => exact ⟨0, hs.length, rfl, rfl, Nat.zero_le _, Nat.le_refl _, by omega, (ExtM.refl _).alloc _, by go_simp, by go_simp, by go_simp, by simp, fun t ht h => absurd h (Nat.not_lt_zero _), fun t ht h => by omega⟩
  case round =>
    obtain ⟨lo, hi, rfl, rfl, hlh, hin, hg, hx, b0, b1, b2, hlt, I1, I2⟩ := hrel
    by_cases hlt' : lo < hi
    · have hm : (lo + hi) / 2 < hs.length := by omega
      obtain ⟨g, rfl, hgl, ⟨e0, e1, e2, e3, fz⟩⟩ := (h.ext hx (fun _ _ h => h)).at' _ hm
      have hcmp := fun u => fromCmp_h (hs[(lo + hi) / 2]'hm) key time val u
      by_cases hq : aheadB key time (hs[(lo + hi) / 2]'hm) = true
      · rw [if_pos hq] at hcmp
        go_wp2_with fail
        refine Plan.begin Plan.Ext 8 rfl (by kernel_rfl) ?_
        refine Plan.left_q 0 (by rfl) (by kernel_rfl) ?_; go_big_quiet_step (fail); refine wpQuiet_nil ?_
        refine Plan.left_q 1 (by rfl) (by kernel_rfl) ?_; go_big_quiet_step (fail); refine wpQuiet_nil ?_
        refine Plan.left_q 2 (by rfl) (by kernel_rfl) ?_; go_big_quiet_step (fail); refine wpQuiet_nil ?_
        refine Plan.left_q 3 (by rfl) (by kernel_rfl) ?_; go_big_quiet_step (fail); refine wpQuiet_nil ?_
        refine Plan.left_q 4 (by rfl) (by kernel_rfl) ?_; go_big_quiet_step (fail); refine wpQuiet_nil ?_
        refine Plan.left_q 5 (by rfl) (by kernel_rfl) ?_; go_big_quiet_step (fail); refine wpQuiet_nil ?_
        refine Plan.left_one 6 (by kernel_rfl) (by rfl) (Plan.plain rfl fun K hK => ?_)
        go_wp2_with (fail)
        refine (hcmp _).mono ?_
        rintro e w1 ⟨rfl, h1⟩
        have H1 := ExtM.trans _ _ _ (ExtM.refl _).drew h1
        obtain ⟨hc1, hf1, -⟩ := Ext.rules H1
        have hs1_0 : w.heap.size < w1.heap.size := by have := H1.size; (try simp at this); omega
        have hs1_1 : g < w1.heap.size := by have := H1.size; (try simp at this); omega
        go_wp2_with (fail)
        refine hK _ _ h1 ?_
        clear hK K
        refine Plan.left_q 7 (by rfl) (by kernel_rfl) ?_; go_big_quiet_step (fail); refine wpQuiet_nil ?_
        refine Plan.left_done (by kernel_rfl) ?_
        go_wp2
        go_roundg (hi - ((lo + hi) / 2 + 1))
        case measure => omega
        case rel =>
          refine ⟨(lo + hi) / 2 + 1, hi, by rw [show ((lo : Int) + (hi : Int)) / 2 + 1 = (((lo + hi) / 2 + 1 : Nat) : Int) by omega], rfl, by omega, hin, Nat.le_refl _, ExtM.trans _ _ _ hx H1, (hc1 _ _ hlt).trans b0, (hc1 _ _ hlt).trans b1, (hc1 _ _ hlt).trans b2, hs1_0, fun t ht h => ?_, I2⟩
          exact hmono t _ ht hm (by omega) hq
      · rw [if_neg hq] at hcmp
        go_wp2_with fail
        refine Plan.begin Plan.Ext 8 rfl (by kernel_rfl) ?_
        refine Plan.left_q 0 (by rfl) (by kernel_rfl) ?_; go_big_quiet_step (fail); refine wpQuiet_nil ?_
        refine Plan.left_q 1 (by rfl) (by kernel_rfl) ?_; go_big_quiet_step (fail); refine wpQuiet_nil ?_
        refine Plan.left_q 2 (by rfl) (by kernel_rfl) ?_; go_big_quiet_step (fail); refine wpQuiet_nil ?_
        refine Plan.left_q 3 (by rfl) (by kernel_rfl) ?_; go_big_quiet_step (fail); refine wpQuiet_nil ?_
        refine Plan.left_q 4 (by rfl) (by kernel_rfl) ?_; go_big_quiet_step (fail); refine wpQuiet_nil ?_
        refine Plan.left_q 5 (by rfl) (by kernel_rfl) ?_; go_big_quiet_step (fail); refine wpQuiet_nil ?_
        refine Plan.left_one 6 (by kernel_rfl) (by rfl) (Plan.plain rfl fun K hK => ?_)
        go_wp2_with (fail)
        refine (hcmp _).mono ?_
        rintro e w1 ⟨rfl, h1⟩
        have H1 := ExtM.trans _ _ _ (ExtM.refl _).drew h1
        obtain ⟨hc1, hf1, -⟩ := Ext.rules H1
        have hs1_0 : w.heap.size < w1.heap.size := by have := H1.size; (try simp at this); omega
        have hs1_1 : g < w1.heap.size := by have := H1.size; (try simp at this); omega
        go_wp2_with (fail)
        refine hK _ _ h1 ?_
        clear hK K
        refine Plan.left_q 7 (by rfl) (by kernel_rfl) ?_; go_big_quiet_step (fail); refine wpQuiet_nil ?_
        refine Plan.left_done (by kernel_rfl) ?_
        go_wp2
        go_roundg ((lo + hi) / 2 - lo)
        case measure => omega
        case rel =>
          refine ⟨lo, (lo + hi) / 2, rfl, by rw [show ((lo : Int) + (hi : Int)) / 2 = (((lo + hi) / 2 : Nat) : Int) by omega], by omega, by omega, Nat.le_refl _, ExtM.trans _ _ _ hx H1, (hc1 _ _ hlt).trans b0, (hc1 _ _ hlt).trans b1, (hc1 _ _ hlt).trans b2, hs1_0, I1, fun t ht h => ?_⟩
          cases hb : aheadB key time hs[t] with
          | false => rfl
          | true => exact absurd (hmono _ t hm ht h hb) hq
    · obtain rfl : hi = lo := by omega
      have hfin : ∀ i (hi' : i < hs.length), aheadB key time hs[i] = decide (i < hi) := fun i hi' => by
        by_cases h : i < hi
        · rw [I1 i hi' h, decide_eq_true h]
        · rw [I2 i hi' (by omega), decide_eq_false h]
      by_cases hn : hi < hs.length
      · obtain ⟨g, rfl, hgl, ⟨e0, e1, e2, e3, fz⟩⟩ := (h.ext hx (fun _ _ h => h)).at' _ hn
        have hcmp := fun u => fromCmp_h (hs[hi]'hn) key time val u
        go_wp2_with fail
        refine Plan.begin Plan.Ext 16 rfl (by kernel_rfl) ?_
        refine Plan.left_q 0 (by rfl) (by kernel_rfl) ?_; go_big_quiet_step (fail); refine wpQuiet_nil ?_
        refine Plan.left_q 1 (by rfl) (by kernel_rfl) ?_; go_big_quiet_step (fail); refine wpQuiet_nil ?_
        refine Plan.left_q 2 (by rfl) (by kernel_rfl) ?_; go_big_quiet_step (fail); refine wpQuiet_nil ?_
        refine Plan.left_q 3 (by rfl) (by kernel_rfl) ?_; go_big_quiet_step (fail); refine wpQuiet_nil ?_
        refine Plan.left_q 4 (by rfl) (by kernel_rfl) ?_; go_big_quiet_step (fail); refine wpQuiet_nil ?_
        refine Plan.left_q 5 (by rfl) (by kernel_rfl) ?_; go_big_quiet_step (fail); refine wpQuiet_nil ?_
        refine Plan.left_q 6 (by rfl) (by kernel_rfl) ?_; go_big_quiet_step (fail); refine wpQuiet_nil ?_
        refine Plan.left_q 7 (by rfl) (by kernel_rfl) ?_; go_big_quiet_step (fail); refine wpQuiet_nil ?_
        refine Plan.left_q 8 (by rfl) (by kernel_rfl) ?_; go_big_quiet_step (fail); refine wpQuiet_nil ?_
        refine Plan.left_q 9 (by rfl) (by kernel_rfl) ?_; go_big_quiet_step (fail); refine wpQuiet_nil ?_
        refine Plan.left_q 10 (by rfl) (by kernel_rfl) ?_; go_big_quiet_step (fail); refine wpQuiet_nil ?_
        refine Plan.left_one 11 (by kernel_rfl) (by rfl) (Plan.want rfl fun K hK => ?_)
        go_wp2_with (fail)
        refine (hcmp _).mono ?_
        rintro e w1 ⟨rfl, h1⟩
        have H1 := ExtM.trans _ _ _ (ExtM.refl _).drew h1
        obtain ⟨hc1, hf1, -⟩ := Ext.rules H1
        have hs1_0 : w.heap.size < w1.heap.size := by have := H1.size; (try simp at this); omega
        have hs1_1 : g < w1.heap.size := by have := H1.size; (try simp at this); omega
        go_wp2_with (fail)
        refine hK _ _ h1 ?_
        clear hK K
        refine Plan.left_q 12 (by rfl) (by kernel_rfl) ?_; go_big_quiet_step (fail); refine wpQuiet_nil ?_
        refine Plan.left_q 13 (by rfl) (by kernel_rfl) ?_; go_big_quiet_step (fail); refine wpQuiet_nil ?_
        refine Plan.left_q 14 (by rfl) (by kernel_rfl) ?_; go_big_quiet_step (fail); refine wpQuiet_nil ?_
        refine Plan.left_q 15 (by rfl) (by kernel_rfl) ?_; go_big_quiet_step (fail); refine wpQuiet_nil ?_
        refine Plan.left_done (by kernel_rfl) ?_
        go_wp2
        go_ret2
        exact ⟨hi, _, rfl, hin, hfin, ExtM.trans _ _ _ hx H1⟩
      · go_wp2_with fail
        refine Plan.begin Plan.Ext 16 rfl (by kernel_rfl) ?_
        refine Plan.left_q 0 (by rfl) (by kernel_rfl) ?_; go_big_quiet_step (fail); refine wpQuiet_nil ?_
        refine Plan.left_q 1 (by rfl) (by kernel_rfl) ?_; go_big_quiet_step (fail); refine wpQuiet_nil ?_
        refine Plan.left_q 2 (by rfl) (by kernel_rfl) ?_; go_big_quiet_step (fail); refine wpQuiet_nil ?_
        refine Plan.left_q 3 (by rfl) (by kernel_rfl) ?_; go_big_quiet_step (fail); refine wpQuiet_nil ?_
        refine Plan.left_q 4 (by rfl) (by kernel_rfl) ?_; go_big_quiet_step (fail); refine wpQuiet_nil ?_
        refine Plan.left_q 5 (by rfl) (by kernel_rfl) ?_; go_big_quiet_step (fail); refine wpQuiet_nil ?_
        refine Plan.left_q 6 (by rfl) (by kernel_rfl) ?_; go_big_quiet_step (fail); refine wpQuiet_nil ?_
        refine Plan.left_q 7 (by rfl) (by kernel_rfl) ?_; go_big_quiet_step (fail); refine wpQuiet_nil ?_
        refine Plan.left_q 8 (by rfl) (by kernel_rfl) ?_; go_big_quiet_step (fail); refine wpQuiet_nil ?_
        refine Plan.left_q 9 (by rfl) (by kernel_rfl) ?_; go_big_quiet_step (fail); refine wpQuiet_nil ?_
        refine Plan.left_q 10 (by rfl) (by kernel_rfl) ?_; go_big_quiet_step (fail); refine wpQuiet_nil ?_
        refine Plan.left_one 11 (by kernel_rfl) (by rfl) (Plan.skip ExtM.refl rfl ?_)
        simp only [Act.put, List.setIfInBounds_toArray, List.set_cons_succ, List.set_cons_zero]
        refine Plan.left_q 12 (by rfl) (by kernel_rfl) ?_; go_big_quiet_step (fail); refine wpQuiet_nil ?_
        refine Plan.left_q 13 (by rfl) (by kernel_rfl) ?_; go_big_quiet_step (fail); refine wpQuiet_nil ?_
        refine Plan.left_q 14 (by rfl) (by kernel_rfl) ?_; go_big_quiet_step (fail); refine wpQuiet_nil ?_
        refine Plan.left_q 15 (by rfl) (by kernel_rfl) ?_; go_big_quiet_step (fail); refine wpQuiet_nil ?_
        refine Plan.left_done (by kernel_rfl) ?_
        go_wp2
        go_ret2
        exact ⟨hi, _, rfl, hin, hfin, hx.drew⟩
end Go.Proofs.YtmcgnnmffeojpaaGreatDoor
