/- The rows of a side: what each function of the package side computes. -/
import Derived.Test.YtmcgnnmffeojpaaGreatDoorPk4
import Derived.Test.YtmcgnnmffeojpaaGreatDoorPk11
import Derived.Deep.LoopGhost
/- slices.BinarySearchFunc over held rows; Side.from. -/
namespace Go.Proofs.YtmcgnnmffeojpaaGreatDoor
open Go.RowKit Go.Plan

/-- A row is ahead of a key and a time. -/
def aheadB (key time : Int) (h : Hd) : Bool := decide (compareI h.r.k h.r.t 0 key time 0 < 0)

set_option maxRecDepth 100000 in
set_option maxHeartbeats 4000000 in
theorem fromCmp_c (a b c m key time val : Int) (w : World) :
    Calls Tryz.prog 144 #[.agg #[.int .i64 a, .int .i64 b, .int .i64 c, .int .i64 m], .agg #[.int .i64 key, .int .i64 time, .int .i64 val]] w fun e w' => e = .returned (.int .i64 (if compareI a b 0 key time 0 < 0 then -1 else 1)) ∧ Ext w w' := by
  by_cases hq : compareI a b 0 key time 0 < 0
  · rw [if_pos hq]
    go_enter Tryz.func144, Tryz.ntmps144
    go_wp2_with (go_at_call 93; refine (compare_c _ _ _ _ _ _ _).mono ?_; rintro e w1 ⟨rfl, hx⟩)
    go_ret
    exact ⟨rfl, ExtM.trans _ _ _ (((ExtM.refl _).alloc _).alloc _) hx⟩
  · rw [if_neg hq]
    go_enter Tryz.func144, Tryz.ntmps144
    go_wp2_with (go_at_call 93; refine (compare_c _ _ _ _ _ _ _).mono ?_; rintro e w1 ⟨rfl, hx⟩)
    go_ret
    exact ⟨rfl, ExtM.trans _ _ _ (((ExtM.refl _).alloc _).alloc _) hx⟩

theorem fromCmp_h (h : Hd) (key time val : Int) (w : World) :
    Calls Tryz.prog 144 #[.agg #[.int .i64 h.r.k, .int .i64 h.r.t, .int .i64 h.r.v, .int .i64 h.m], .agg #[.int .i64 key, .int .i64 time, .int .i64 val]] w fun e w' => e = .returned (.int .i64 (if aheadB key time h = true then -1 else 1)) ∧ Ext w w' := by
  have := fromCmp_c h.r.k h.r.t h.r.v h.m key time val w
  unfold aheadB
  by_cases hq : compareI h.r.k h.r.t 0 key time 0 < 0
  · simpa [hq] using this
  · simpa [hq] using this

/-- The cells of one row. -/
structure HCell (w : World) (g j : Nat) (h : Hd) : Prop where
  e0 : w.cell? ⟨g, j * 4, none⟩ = some (.int .i64 h.r.k)
  e1 : w.cell? ⟨g, j * 4 + 1, none⟩ = some (.int .i64 h.r.t)
  e2 : w.cell? ⟨g, j * 4 + 2, none⟩ = some (.int .i64 h.r.v)
  e3 : w.cell? ⟨g, j * 4 + 3, none⟩ = some (.int .i64 h.m)
  fz : ∀ o, w.frozen? ⟨g, o, none⟩ = false
theorem HRow.ext {w w' : World} {v : Value} {hs : List Hd} {M : Nat → Prop} (h : HRow w v hs) (hx : ExtM M w w') (hM : ∀ k, v.ownBlock = some k → ¬ M k) : HRow w' v hs := own_ext h hx hM
theorem HRow.at' {w : World} {p : Option Addr} {cap : Nat} {hs : List Hd} (h : HRow w (.slice p hs.length cap) hs) (j : Nat) (hj : j < hs.length) : ∃ g, p = some ⟨g, 0, none⟩ ∧ g < w.heap.size ∧ HCell w g j (hs[j]'hj) := by
  obtain ⟨g, cap', he, hlt, hc0, -⟩ := own_cell hd_len h j 0 hj (by omega)
  injection he with hp hn hcap
  obtain ⟨g1, cap1, he1, -, hc1, -⟩ := own_cell hd_len h j 1 hj (by omega)
  injection he1 with hp1; rw [hp] at hp1; obtain rfl : g = g1 := by injection hp1 with hp1; injection hp1
  obtain ⟨g1, cap1, he1, -, hc2, -⟩ := own_cell hd_len h j 2 hj (by omega)
  injection he1 with hp1; rw [hp] at hp1; obtain rfl : g = g1 := by injection hp1 with hp1; injection hp1
  obtain ⟨g1, cap1, he1, -, hc3, -⟩ := own_cell hd_len h j 3 hj (by omega)
  injection he1 with hp1; rw [hp] at hp1; obtain rfl : g = g1 := by injection hp1 with hp1; injection hp1
  refine ⟨g, hp, hlt, hc0, hc1, hc2, hc3, fun o => ?_⟩
  rcases h.2 with ⟨h1, -⟩ | ⟨g', cap2, cur, h1, -, h2, -⟩
  · rw [hp] at h1; cases h1
  · rw [hp] at h1
    injection h1 with h1
    injection h1 with h1
    injection h1 with h1
    subst h1
    simp [World.frozen?, h2]

set_option maxRecDepth 100000 in
set_option maxHeartbeats 4000000 in
theorem bsearch_h (v : Value) (hs : List Hd) (key time val : Int) (w : World) (h : HRow w v hs) (hl : hs.length < 1000000)
    (hmono : ∀ a b (ha : a < hs.length) (hb : b < hs.length), a ≤ b → aheadB key time hs[b] = true → aheadB key time hs[a] = true) :
    Calls Tryz.prog 143 #[v, .agg #[.int .i64 key, .int .i64 time, .int .i64 val], .func (.func 144) #[] #[]] w fun e w' =>
      ∃ (k : Nat) (b : Bool), e = .returned (.tuple #[.int .i64 k, .bool b]) ∧ k ≤ hs.length ∧ (∀ i (hi : i < hs.length), aheadB key time hs[i] = decide (i < k)) ∧ Ext w w' := by
  obtain ⟨p, cap, rfl, -⟩ := own_slice h
  have hvl : ∀ k, (Value.slice p hs.length cap).ownBlock = some k → k < w.heap.size := fun k hk => (own_lt h k hk).2
  go_enter Tryz.func143, Tryz.ntmps143
  go_wp2
  go_loopg [9, 10] hs.length (fun kx s9 s10 wr => ∃ lo hi : Nat, s9 = .int .i64 lo ∧ s10 = .int .i64 hi ∧ lo ≤ hi ∧ hi ≤ hs.length ∧ hi - lo ≤ kx ∧ Ext w wr ∧ wr.cell? ⟨w.heap.size, 0, none⟩ = some (.int .i64 key) ∧ wr.cell? ⟨w.heap.size, 1, none⟩ = some (.int .i64 time) ∧ wr.cell? ⟨w.heap.size, 2, none⟩ = some (.int .i64 val) ∧ w.heap.size < wr.heap.size ∧
    (∀ t (ht : t < hs.length), t < lo → aheadB key time hs[t] = true) ∧ (∀ t (ht : t < hs.length), hi ≤ t → aheadB key time hs[t] = false))
  case atStart => exact ⟨0, hs.length, rfl, rfl, Nat.zero_le _, Nat.le_refl _, by omega, (ExtM.refl _).alloc _, by go_simp, by go_simp, by go_simp, by simp, fun t ht h => absurd h (Nat.not_lt_zero _), fun t ht h => by omega⟩
  case round =>
    obtain ⟨lo, hi, rfl, rfl, hlh, hin, hg, hx, b0, b1, b2, hlt, I1, I2⟩ := hrel
    by_cases hlt' : lo < hi
    · have hm : (lo + hi) / 2 < hs.length := by omega
      obtain ⟨g, rfl, hgl, ⟨e0, e1, e2, e3, fz⟩⟩ := (h.ext hx (fun _ _ h => h)).at' _ hm
      have hcmp := fun u => fromCmp_h (hs[(lo + hi) / 2]'hm) key time val u
      by_cases hq : aheadB key time (hs[(lo + hi) / 2]'hm) = true
      · rw [if_pos hq] at hcmp
        go_wp2_with fail
        refine Plan.begin Plan.Ext 8 rfl (by kernel_rfl) ?_
        refine Plan.left_q 0 (by rfl) (by kernel_rfl) ?_; go_big_quiet_step (fail); refine wpQuiet_nil ?_
        refine Plan.left_q 1 (by rfl) (by kernel_rfl) ?_; go_big_quiet_step (fail); refine wpQuiet_nil ?_
        refine Plan.left_q 2 (by rfl) (by kernel_rfl) ?_; go_big_quiet_step (fail); refine wpQuiet_nil ?_
        refine Plan.left_q 3 (by rfl) (by kernel_rfl) ?_; go_big_quiet_step (fail); refine wpQuiet_nil ?_
        refine Plan.left_q 4 (by rfl) (by kernel_rfl) ?_; go_big_quiet_step (fail); refine wpQuiet_nil ?_
        refine Plan.left_q 5 (by rfl) (by kernel_rfl) ?_; go_big_quiet_step (fail); refine wpQuiet_nil ?_
        refine Plan.left_one 6 (by kernel_rfl) (by rfl) (Plan.plain rfl fun K hK => ?_)
        go_wp2_with (fail)
        refine (hcmp _).mono ?_
        rintro e w1 ⟨rfl, h1⟩
        have H1 := ExtM.trans _ _ _ (ExtM.refl _).drew h1
        obtain ⟨hc1, hf1, -⟩ := Ext.rules H1
        have hs1_0 : w.heap.size < w1.heap.size := by have := H1.size; (try simp at this); omega
        have hs1_1 : g < w1.heap.size := by have := H1.size; (try simp at this); omega
        go_wp2_with (fail)
        refine hK _ _ h1 ?_
        clear hK K
        refine Plan.left_q 7 (by rfl) (by kernel_rfl) ?_; go_big_quiet_step (fail); refine wpQuiet_nil ?_
        refine Plan.left_done (by kernel_rfl) ?_
        go_wp2
        go_roundg (hi - ((lo + hi) / 2 + 1))
        case measure => omega
        case rel =>
          refine ⟨(lo + hi) / 2 + 1, hi, by rw [show ((lo : Int) + (hi : Int)) / 2 + 1 = (((lo + hi) / 2 + 1 : Nat) : Int) by omega], rfl, by omega, hin, Nat.le_refl _, ExtM.trans _ _ _ hx H1, (hc1 _ _ hlt).trans b0, (hc1 _ _ hlt).trans b1, (hc1 _ _ hlt).trans b2, hs1_0, fun t ht h => ?_, I2⟩
          exact hmono t _ ht hm (by omega) hq
      · rw [if_neg hq] at hcmp
        go_wp2_with fail
        refine Plan.begin Plan.Ext 8 rfl (by kernel_rfl) ?_
        refine Plan.left_q 0 (by rfl) (by kernel_rfl) ?_; go_big_quiet_step (fail); refine wpQuiet_nil ?_
        refine Plan.left_q 1 (by rfl) (by kernel_rfl) ?_; go_big_quiet_step (fail); refine wpQuiet_nil ?_
        refine Plan.left_q 2 (by rfl) (by kernel_rfl) ?_; go_big_quiet_step (fail); refine wpQuiet_nil ?_
        refine Plan.left_q 3 (by rfl) (by kernel_rfl) ?_; go_big_quiet_step (fail); refine wpQuiet_nil ?_
        refine Plan.left_q 4 (by rfl) (by kernel_rfl) ?_; go_big_quiet_step (fail); refine wpQuiet_nil ?_
        refine Plan.left_q 5 (by rfl) (by kernel_rfl) ?_; go_big_quiet_step (fail); refine wpQuiet_nil ?_
        refine Plan.left_one 6 (by kernel_rfl) (by rfl) (Plan.plain rfl fun K hK => ?_)
        go_wp2_with (fail)
        refine (hcmp _).mono ?_
        rintro e w1 ⟨rfl, h1⟩
        have H1 := ExtM.trans _ _ _ (ExtM.refl _).drew h1
        obtain ⟨hc1, hf1, -⟩ := Ext.rules H1
        have hs1_0 : w.heap.size < w1.heap.size := by have := H1.size; (try simp at this); omega
        have hs1_1 : g < w1.heap.size := by have := H1.size; (try simp at this); omega
        go_wp2_with (fail)
        refine hK _ _ h1 ?_
        clear hK K
        refine Plan.left_q 7 (by rfl) (by kernel_rfl) ?_; go_big_quiet_step (fail); refine wpQuiet_nil ?_
        refine Plan.left_done (by kernel_rfl) ?_
        go_wp2
        go_roundg ((lo + hi) / 2 - lo)
        case measure => omega
        case rel =>
          refine ⟨lo, (lo + hi) / 2, rfl, by rw [show ((lo : Int) + (hi : Int)) / 2 = (((lo + hi) / 2 : Nat) : Int) by omega], by omega, by omega, Nat.le_refl _, ExtM.trans _ _ _ hx H1, (hc1 _ _ hlt).trans b0, (hc1 _ _ hlt).trans b1, (hc1 _ _ hlt).trans b2, hs1_0, I1, fun t ht h => ?_⟩
          cases hb : aheadB key time hs[t] with
          | false => rfl
          | true => exact absurd (hmono _ t hm ht h hb) hq
    · obtain rfl : hi = lo := by omega
      have hfin : ∀ i (hi' : i < hs.length), aheadB key time hs[i] = decide (i < hi) := fun i hi' => by
        by_cases h : i < hi
        · rw [I1 i hi' h, decide_eq_true h]
        · rw [I2 i hi' (by omega), decide_eq_false h]
      by_cases hn : hi < hs.length
      · obtain ⟨g, rfl, hgl, ⟨e0, e1, e2, e3, fz⟩⟩ := (h.ext hx (fun _ _ h => h)).at' _ hn
        have hcmp := fun u => fromCmp_h (hs[hi]'hn) key time val u
        go_wp2_with fail
        refine Plan.begin Plan.Ext 16 rfl (by kernel_rfl) ?_
        refine Plan.left_q 0 (by rfl) (by kernel_rfl) ?_; go_big_quiet_step (fail); refine wpQuiet_nil ?_
        refine Plan.left_q 1 (by rfl) (by kernel_rfl) ?_; go_big_quiet_step (fail); refine wpQuiet_nil ?_
        refine Plan.left_q 2 (by rfl) (by kernel_rfl) ?_; go_big_quiet_step (fail); refine wpQuiet_nil ?_
        refine Plan.left_q 3 (by rfl) (by kernel_rfl) ?_; go_big_quiet_step (fail); refine wpQuiet_nil ?_
        refine Plan.left_q 4 (by rfl) (by kernel_rfl) ?_; go_big_quiet_step (fail); refine wpQuiet_nil ?_
        refine Plan.left_q 5 (by rfl) (by kernel_rfl) ?_; go_big_quiet_step (fail); refine wpQuiet_nil ?_
        refine Plan.left_q 6 (by rfl) (by kernel_rfl) ?_; go_big_quiet_step (fail); refine wpQuiet_nil ?_
        refine Plan.left_q 7 (by rfl) (by kernel_rfl) ?_; go_big_quiet_step (fail); refine wpQuiet_nil ?_
        refine Plan.left_q 8 (by rfl) (by kernel_rfl) ?_; go_big_quiet_step (fail); refine wpQuiet_nil ?_
        refine Plan.left_q 9 (by rfl) (by kernel_rfl) ?_; go_big_quiet_step (fail); refine wpQuiet_nil ?_
        refine Plan.left_q 10 (by rfl) (by kernel_rfl) ?_; go_big_quiet_step (fail); refine wpQuiet_nil ?_
        refine Plan.left_one 11 (by kernel_rfl) (by rfl) (Plan.want rfl fun K hK => ?_)
        go_wp2_with (fail)
        refine (hcmp _).mono ?_
        rintro e w1 ⟨rfl, h1⟩
        have H1 := ExtM.trans _ _ _ (ExtM.refl _).drew h1
        obtain ⟨hc1, hf1, -⟩ := Ext.rules H1
        have hs1_0 : w.heap.size < w1.heap.size := by have := H1.size; (try simp at this); omega
        have hs1_1 : g < w1.heap.size := by have := H1.size; (try simp at this); omega
        go_wp2_with (fail)
        refine hK _ _ h1 ?_
        clear hK K
        refine Plan.left_q 12 (by rfl) (by kernel_rfl) ?_; go_big_quiet_step (fail); refine wpQuiet_nil ?_
        refine Plan.left_q 13 (by rfl) (by kernel_rfl) ?_; go_big_quiet_step (fail); refine wpQuiet_nil ?_
        refine Plan.left_q 14 (by rfl) (by kernel_rfl) ?_; go_big_quiet_step (fail); refine wpQuiet_nil ?_
        refine Plan.left_q 15 (by rfl) (by kernel_rfl) ?_; go_big_quiet_step (fail); refine wpQuiet_nil ?_
        refine Plan.left_done (by kernel_rfl) ?_
        go_wp2
        go_ret2
        exact ⟨hi, _, rfl, hin, hfin, ExtM.trans _ _ _ hx H1⟩
      · go_wp2_with fail
        refine Plan.begin Plan.Ext 16 rfl (by kernel_rfl) ?_
        refine Plan.left_q 0 (by rfl) (by kernel_rfl) ?_; go_big_quiet_step (fail); refine wpQuiet_nil ?_
        refine Plan.left_q 1 (by rfl) (by kernel_rfl) ?_; go_big_quiet_step (fail); refine wpQuiet_nil ?_
        refine Plan.left_q 2 (by rfl) (by kernel_rfl) ?_; go_big_quiet_step (fail); refine wpQuiet_nil ?_
        refine Plan.left_q 3 (by rfl) (by kernel_rfl) ?_; go_big_quiet_step (fail); refine wpQuiet_nil ?_
        refine Plan.left_q 4 (by rfl) (by kernel_rfl) ?_; go_big_quiet_step (fail); refine wpQuiet_nil ?_
        refine Plan.left_q 5 (by rfl) (by kernel_rfl) ?_; go_big_quiet_step (fail); refine wpQuiet_nil ?_
        refine Plan.left_q 6 (by rfl) (by kernel_rfl) ?_; go_big_quiet_step (fail); refine wpQuiet_nil ?_
        refine Plan.left_q 7 (by rfl) (by kernel_rfl) ?_; go_big_quiet_step (fail); refine wpQuiet_nil ?_
        refine Plan.left_q 8 (by rfl) (by kernel_rfl) ?_; go_big_quiet_step (fail); refine wpQuiet_nil ?_
        refine Plan.left_q 9 (by rfl) (by kernel_rfl) ?_; go_big_quiet_step (fail); refine wpQuiet_nil ?_
        refine Plan.left_q 10 (by rfl) (by kernel_rfl) ?_; go_big_quiet_step (fail); refine wpQuiet_nil ?_
        refine Plan.left_one 11 (by kernel_rfl) (by rfl) (Plan.skip ExtM.refl rfl ?_)
        simp only [Act.put, List.setIfInBounds_toArray, List.set_cons_succ, List.set_cons_zero]
        refine Plan.left_q 12 (by rfl) (by kernel_rfl) ?_; go_big_quiet_step (fail); refine wpQuiet_nil ?_
        refine Plan.left_q 13 (by rfl) (by kernel_rfl) ?_; go_big_quiet_step (fail); refine wpQuiet_nil ?_
        refine Plan.left_q 14 (by rfl) (by kernel_rfl) ?_; go_big_quiet_step (fail); refine wpQuiet_nil ?_
        refine Plan.left_q 15 (by rfl) (by kernel_rfl) ?_; go_big_quiet_step (fail); refine wpQuiet_nil ?_
        refine Plan.left_done (by kernel_rfl) ?_
        go_wp2
        go_ret2
        exact ⟨hi, _, rfl, hin, hfin, hx.drew⟩
end Go.Proofs.YtmcgnnmffeojpaaGreatDoor
namespace Go.Proofs.YtmcgnnmffeojpaaGreatDoor
open Go.RowKit Go.Plan

/-- An error's number as an error. -/
def errV (e : Int) : Value := if e = 0 then .nilIface else .iface 48 (.int .i64 e)

theorem aheadB_iff (key time : Int) (h : Hd) : aheadB key time h = true ↔ h.r.k < key ∨ (h.r.k = key ∧ h.r.t < time) := by
  unfold aheadB compareI
  simp only [orI, cmpI]
  rcases Int.lt_trichotomy h.r.k key with h1 | h1 | h1
  · simp [h1]
  · rcases Int.lt_trichotomy h.r.t time with h2 | h2 | h2
    · simp [h1, h2]
    · simp [h1, h2]
    · have h3 : ¬ h.r.t < time := by omega
      have h4 : ¬ h.r.t = time := by omega
      simp [h1, h2, h3]
  · have h3 : ¬ h.r.k < key := by omega
    have h4 : ¬ h.r.k = key := by omega
    simp [h1, h3, h4]
/-- By key, then time. -/
def leKT (a b : Hd) : Prop := a.r.k < b.r.k ∨ (a.r.k = b.r.k ∧ a.r.t ≤ b.r.t)
def SortedH (hs : List Hd) : Prop := hs.Pairwise leKT
theorem sorted_ahead {hs : List Hd} (h : SortedH hs) (key time : Int) : ∀ a b (ha : a < hs.length) (hb : b < hs.length), a ≤ b → aheadB key time hs[b] = true → aheadB key time hs[a] = true := by
  intro a b ha hb hab hq
  rcases Nat.lt_or_eq_of_le hab with h1 | rfl
  · have h2 := (List.pairwise_iff_getElem.1 h) a b ha hb h1
    rw [aheadB_iff] at hq ⊢
    unfold leKT at h2
    omega
  · exact hq
theorem countP_pre {α : Type} (p : α → Bool) : ∀ (l : List α) (k : Nat), k ≤ l.length → (∀ i (hi : i < l.length), p l[i] = decide (i < k)) → l.countP p = k
  | [], k, hk, _ => by simp at hk ⊢; omega
  | a :: r, 0, _, h => by
    rw [List.countP_eq_zero]
    intro x hx
    obtain ⟨i, hi, rfl⟩ := List.mem_iff_getElem.1 hx
    rw [h i hi]; simp
  | a :: r, k + 1, hk, h => by
    have ha : p a = true := by have := h 0 (by simp); simpa using this
    rw [List.countP_cons_of_pos ha, countP_pre p r k (by simpa using hk) (fun i hi => by have := h (i + 1) (by simpa using hi); simpa using this)]
/-- Where the first one stands that is not ahead. -/
def fromN (key time : Int) (hs : List Hd) : Nat := hs.countP (aheadB key time)

theorem HRow.extF {w w' : World} {v : Value} {hs : List Hd} (h : HRow w v hs) (hx : Ext w w') : HRow w' v hs := h.ext hx (fun _ _ h => h)
theorem HRow.ne {w : World} {v : Value} {hs : List Hd} (h : HRow w v hs) {n : Nat} (hn : w.heap.size ≤ n) : v.ownBlock ≠ some n := fun e => by have := (own_lt h _ e).2; omega
/-- A side's rows. -/
structure SideIs (w : World) (S o : Nat) (v : Value) (hs : List Hd) : Prop where
  c0 : w.cell? ⟨S, o, none⟩ = some v
  fz : w.frozen? ⟨S, o, none⟩ = false
  row : HRow w v hs
  srt : SortedH hs
  own : v.ownBlock ≠ some S
theorem SideIs.lt {w : World} {S o : Nat} {v : Value} {hs : List Hd} (h : SideIs w S o v hs) : S < w.heap.size := by
  have := h.c0
  unfold World.cell? at this
  split at this
  · rename_i hb; exact (Array.getElem?_eq_some_iff.1 hb).1
  · cases this
theorem SideIs.ext {w w' : World} {S o : Nat} {v : Value} {hs : List Hd} (h : SideIs w S o v hs) (hx : Ext w w') : SideIs w' S o v hs :=
  ⟨(hx.cell (p := ⟨S, o, none⟩) h.lt (fun h => h)).trans h.c0, (hx.frozen (p := ⟨S, o, none⟩) h.lt (fun h => h)).trans h.fz, h.row.ext hx (fun _ _ h => h), h.srt, h.own⟩

set_option maxRecDepth 100000 in
set_option maxHeartbeats 4000000 in
theorem from_c (S o : Nat) (v : Value) (hs : List Hd) (key time : Int) (w : World) (h : SideIs w S o v hs) (hl : hs.length < 1000000) :
    Calls Tryz.prog 114 #[.pointer (some ⟨S, o, none⟩), .int .i64 key, .int .i64 time] w fun e w' => e = .returned (.int .i64 (fromN key time hs : Nat)) ∧ Ext w w' := by
  have c0 := h.c0
  have hb := bsearch_h v hs key time 0 w h.row hl (sorted_ahead h.srt key time)
  go_enter Tryz.func114, Tryz.ntmps114
  go_wp2_with (go_at_call 143; refine hb.mono ?_; rintro e w1 ⟨k, b, rfl, hk, hka, hx⟩)
  go_ret
  exact ⟨by rw [show fromN key time hs = k from countP_pre _ _ _ hk hka]; rfl, hx⟩

/-- What a function of a side leaves: other rows, nothing else of what was. -/
structure SideUp (w w' : World) (S o : Nat) (v : Value) (hs' : List Hd) : Prop where
  is : ∃ v', SideIs w' S o v' hs' ∧ (v'.ownBlock = v.ownBlock ∨ ∃ k, v'.ownBlock = some k ∧ w.heap.size ≤ k)
  ext : ExtM (fun k => k = S ∨ v.ownBlock = some k) w w'
  cell : ∀ o', o' ≠ o → w'.cell? ⟨S, o', none⟩ = w.cell? ⟨S, o', none⟩
  froz : ∀ o', w'.frozen? ⟨S, o', none⟩ = w.frozen? ⟨S, o', none⟩

def addH (hs : List Hd) (x : Hd) : List Hd := insH hs (fromN x.r.k (x.r.t + 1) hs) x
def addE (hs : List Hd) (x : Hd) : Int := if (goodB x.r.k x.r.t x.r.v && decide (0 ≤ x.m)) = false then 1 else if 300 ≤ hs.length then 12 else 0
/-- The rows behind an Add. -/
def addL (hs : List Hd) (x : Hd) : List Hd := if addE hs x = 0 then addH hs x else hs

theorem fromN_parts {hs : List Hd} (h : SortedH hs) (key time : Int) : (∀ a ∈ hs.take (fromN key time hs), aheadB key time a = true) ∧ (∀ a ∈ hs.drop (fromN key time hs), aheadB key time a = false) := by
  induction hs with
  | nil => exact ⟨fun a ha => by simp at ha, fun a ha => by simp at ha⟩
  | cons x r ih =>
    have h2 := List.pairwise_cons.1 h
    have ih := ih h2.2
    by_cases hx : aheadB key time x = true
    · have e : fromN key time (x :: r) = fromN key time r + 1 := List.countP_cons_of_pos hx
      rw [e]
      refine ⟨fun a ha => ?_, fun a ha => ih.2 a (by simpa using ha)⟩
      rw [List.take_succ_cons] at ha
      rcases List.mem_cons.1 ha with rfl | ha
      · exact hx
      · exact ih.1 a ha
    · have hall : ∀ a ∈ x :: r, aheadB key time a = false := by
        intro a ha
        rcases List.mem_cons.1 ha with rfl | ha
        · exact Bool.eq_false_iff.2 hx
        · cases hq : aheadB key time a with
          | false => rfl
          | true =>
            exfalso
            apply hx
            have h3 := h2.1 a ha
            rw [aheadB_iff] at hq ⊢
            unfold leKT at h3
            omega
      have e : fromN key time (x :: r) = 0 := List.countP_eq_zero.2 (fun a ha => by rw [hall a ha]; decide)
      rw [e]
      exact ⟨fun a ha => by simp at ha, fun a ha => hall a (by simpa using ha)⟩
theorem leKT_trans {a b c : Hd} (h1 : leKT a b) (h2 : leKT b c) : leKT a c := by
  unfold leKT at *; omega
theorem addH_sorted {hs : List Hd} (h : SortedH hs) (x : Hd) : SortedH (addH hs x) := by
  obtain ⟨h1, h2⟩ := fromN_parts h x.r.k (x.r.t + 1)
  unfold addH insH SortedH
  have hp : (hs.take (fromN x.r.k (x.r.t + 1) hs) ++ hs.drop (fromN x.r.k (x.r.t + 1) hs)).Pairwise leKT := by rw [List.take_append_drop]; exact h
  obtain ⟨p1, p2, p3⟩ := List.pairwise_append.1 hp
  refine List.pairwise_append.2 ⟨p1, List.pairwise_cons.2 ⟨fun a ha => ?_, p2⟩, fun a ha b hb => ?_⟩
  · have := h2 a ha
    have h4 : ¬ (aheadB x.r.k (x.r.t + 1) a = true) := by rw [this]; decide
    rw [aheadB_iff] at h4
    unfold leKT
    omega
  · rcases List.mem_cons.1 hb with rfl | hb
    · have := h1 a ha
      rw [aheadB_iff] at this
      unfold leKT
      omega
    · exact p3 a ha b hb

theorem side_set {w w3 : World} {S o : Nat} {v v' : Value} {hs hs' : List Hd} (h : SideIs w S o v hs) (hx : ExtM (fun k => v.ownBlock = some k) w w3) (hr : HRow w3 v' hs') (ho : v'.ownBlock = v.ownBlock ∨ ∃ k, v'.ownBlock = some k ∧ w.heap.size ≤ k) (hs2 : SortedH hs') :
    SideUp w (w3.setCell ⟨S, o, none⟩ v') S o v hs' := by
  have hlt := h.lt
  have hS3 : w3.heap[S]? = w.heap[S]? := hx.block S hlt h.own
  have hc : ∀ o', w3.cell? ⟨S, o', none⟩ = w.cell? ⟨S, o', none⟩ := fun o' => World.cell?_of_block (w := w) (w' := w3) (a := ⟨S, o', none⟩) hS3
  have hf : ∀ o', w3.frozen? ⟨S, o', none⟩ = w.frozen? ⟨S, o', none⟩ := fun o' => World.frozen?_of_block (w := w) (w' := w3) (a := ⟨S, o', none⟩) hS3
  have hoS : v'.ownBlock ≠ some S := fun e => by
    rcases ho with h1 | ⟨k, h1, h2⟩
    · exact h.own (h1 ▸ e)
    · rw [h1] at e
      have := Option.some.inj e
      omega
  refine ⟨⟨v', ⟨?_, ?_, ?_, hs2, hoS⟩, ho⟩, ?_, ?_, ?_⟩
  · have := hc o
    rw [h.c0] at this
    exact World.cell?_setCell_same _ _ _ this
  · rw [World.frozen?_setCell, hf, h.fz]
  · exact hr.ext (M := fun k => S = k) (ExtM.setCell (M := fun k => S = k) (ExtM.refl w3) (p := ⟨S, o, none⟩) (.inr rfl) v') (fun k hk (e : S = k) => hoS (by rw [hk, e]))
  · exact ExtM.setCell (ExtM.mono hx (fun _ _ h => .inr h)) (.inr (.inl rfl)) _
  · intro o' ho'
    rw [World.cell?_setCell_other _ _ _ _ (fun e => ho' (by injection e with _ e _; exact e.symm)), hc]
  · intro o'
    rw [World.frozen?_setCell, hf]

theorem fromN_le (key time : Int) (hs : List Hd) : fromN key time hs ≤ hs.length := List.countP_le_length

set_option maxRecDepth 100000 in
set_option maxHeartbeats 4000000 in
theorem addIn_c (S o : Nat) (v : Value) (hs : List Hd) (k t q m : Int) (w : World) (h : SideIs w S o v hs) (hg : goodB k t q = true) (hm : 0 ≤ m) (hl : hs.length < 300) :
    Calls Tryz.prog 81 #[.pointer (some ⟨S, o, none⟩), .agg #[.int .i64 k, .int .i64 t, .int .i64 q], .int .i64 m] w fun e w' => e = .returned .nilIface ∧ SideUp w w' S o v (addH hs ⟨⟨k, t, q⟩, m⟩) := by
  have hlt := h.lt
  have hd1 : decide (m < 0) = false := by simp; omega
  have hd2 : decide ((300 : Int) ≤ (hs.length : Int)) = false := by simp; omega
  have hS1 := h.ext ((ExtM.refl w).alloc (.cells #[.int .i64 k, .int .i64 t, .int .i64 q] 56))
  have c0 := h.c0
  have fz := h.fz
  obtain ⟨p, cap, rfl, -⟩ := own_slice h.row
  go_enter Tryz.func81, Tryz.ntmps81
  go_wp2_with (
    go_at_call 76
    refine (good_c _ _ _ _).mono ?_
    rintro e w1 ⟨rfl, hx⟩
    rw [hg]
    have hS2 := hS1.ext hx
    have c1 := hS2.c0
    have fz1 := hS2.fz
    have b0 : w1.cell? ⟨w.heap.size, 0, none⟩ = some (.int .i64 k) := (hx.rules.1 _ _ (by simp)).trans (by go_simp)
    have b1 : w1.cell? ⟨w.heap.size, 1, none⟩ = some (.int .i64 t) := (hx.rules.1 _ _ (by simp)).trans (by go_simp)
    have b2 : w1.cell? ⟨w.heap.size, 2, none⟩ = some (.int .i64 q) := (hx.rules.1 _ _ (by simp)).trans (by go_simp)
    have hsz : w.heap.size < w1.heap.size := by have := ExtM.size hx; simp at this; omega
    have hx0 : Ext w w1 := ExtM.trans _ _ _ ((ExtM.refl _).alloc _) hx
    clear hx c0 fz hS1)
  have ht : -1099511627776 ≤ t ∧ t ≤ 1099511627776 := by
    unfold goodB inB at hg
    simp at hg
    omega
  have hw5 : IntKind.i64.wrap (t + 1) = t + 1 := by rw [IntKind.wrap_i64]; omega
  have hrow2 := hS2.row
  have hlt1 := hS2.lt
  have hne : ¬ (Value.slice p hs.length cap).ownBlock = some S := hS2.own
  have hnx : ¬ (Value.slice p hs.length cap).ownBlock = some w.heap.size := h.row.ne (Nat.le_refl _)
  have hxd : Ext w1 w1.drew := (ExtM.refl w1).drew
  refine Plan.beginT (Plan.ExtR (Value.slice p hs.length cap).ownBlock) [19] 20 rfl (by kernel_rfl) ?_
  refine Plan.left_q 0 (by rfl) (by kernel_rfl) ?_; go_big_quiet_step (fail); refine wpQuiet_nil ?_
  refine Plan.left_q 1 (by rfl) (by kernel_rfl) ?_; go_big_quiet_step (fail); refine wpQuiet_nil ?_
  refine Plan.left_q 2 (by rfl) (by kernel_rfl) ?_; go_big_quiet_step (fail); refine wpQuiet_nil ?_
  refine Plan.left_q 3 (by rfl) (by kernel_rfl) ?_; go_big_quiet_step (fail); refine wpQuiet_nil ?_
  refine Plan.left_q 4 (by rfl) (by kernel_rfl) ?_; go_big_quiet_step (fail); refine wpQuiet_nil ?_
  refine Plan.left_q 5 (by rfl) (by kernel_rfl) ?_; go_big_quiet_step (fail); refine wpQuiet_nil ?_
  refine Plan.left_q 6 (by rfl) (by kernel_rfl) ?_; go_big_quiet_step (fail); refine wpQuiet_nil ?_
  refine Plan.left_q 7 (by rfl) (by kernel_rfl) ?_; go_big_quiet_step (fail); refine wpQuiet_nil ?_
  refine Plan.left_q 8 (by rfl) (by kernel_rfl) ?_; go_big_quiet_step (fail); refine wpQuiet_nil ?_
  refine Plan.left_q 9 (by rfl) (by kernel_rfl) ?_; go_big_quiet_step (fail); refine wpQuiet_nil ?_
  refine Plan.left_q 10 (by rfl) (by kernel_rfl) ?_; go_big_quiet_step (fail); refine wpQuiet_nil ?_
  refine Plan.left_q 12 (by rfl) (by kernel_rfl) ?_; go_big_quiet_step (fail); refine wpQuiet_nil ?_
  refine Plan.left_q 13 (by rfl) (by kernel_rfl) ?_; go_big_quiet_step (fail); refine wpQuiet_nil ?_
  refine Plan.left_q 14 (by rfl) (by kernel_rfl) ?_; go_big_quiet_step (fail); refine wpQuiet_nil ?_
  refine Plan.left_two 11 15 (by kernel_rfl) (by rfl) (by rfl) (Plan.plain rfl fun K hK => ?_) (Plan.plain rfl fun K hK => ?_)
  focus
    go_wp2_with (fail)
    refine (from_c S o _ hs k (t + 1) _ (by first | exact hS2.ext hxd | exact hS2.ext (hxd.alloc _)) (by omega)).mono ?_
    rintro e w2 ⟨rfl, h2⟩
    have H2 := ExtR.trans _ _ _ (ExtR.refl _).drew (ExtR.of_ext (R := (Value.slice p hs.length cap).ownBlock) h2)
    obtain ⟨hc2, hf2, -⟩ := ExtR.rules H2
    have hs2_0 : S < w2.heap.size := by have := H2.size; (try simp at this); omega
    have hs2_1 : w.heap.size < w2.heap.size := by have := H2.size; (try simp at this); omega
    go_wp2_with (fail)
    refine hK _ _ (ExtR.of_ext (R := (Value.slice p hs.length cap).ownBlock) h2) ?_
    clear hK K
    refine Plan.left_one 15 (by kernel_rfl) (by rfl) (Plan.plain rfl fun K hK => ?_)
    go_wp2_with (fail)
    refine hK _ _ ((ExtM.refl _).alloc _) ?_
    clear hK K
    refine Plan.left_one 16 (by kernel_rfl) (by rfl) (Plan.plain rfl fun K hK => ?_)
    go_wp2_with (fail)
    refine (insert_h _ hs (fromN k (t + 1) hs) _ ⟨⟨k, t, q⟩, m⟩ _ (by first | exact hrow2.extF (ExtM.alloc (ExtM.trans _ _ _ hxd h2) _) | exact hrow2.extF (ExtM.trans _ _ _ (hxd.alloc _) h2)) (by first | exact ⟨heap_alloc_new _ _⟩ | exact ⟨(h2.block _ (by simp) id).trans (heap_alloc_new _ _)⟩) (fromN_le _ _ _) (hrow2.ne (by have h9 := h2.size; (try simp at h9 ⊢); (try omega))) (by omega)).mono ?_
    rintro e w3 ⟨p', n', cap', rfl, h3, hrow3, hown3⟩
    clear hc2 hf2 hs2_0 hs2_1
    have H3 := ExtR.trans _ _ _ (H2.alloc _) h3
    obtain ⟨hc3, hf3, -⟩ := ExtR.rules H3
    have hs3_0 : S < w3.heap.size := by have := H3.size; (try simp at this); omega
    have hs3_1 : w.heap.size < w3.heap.size := by have := H3.size; (try simp at this); omega
    go_wp2_with (fail)
    refine hK _ _ h3 ?_
    clear hK K
    refine Plan.left_one 17 (by kernel_rfl) (by rfl) (Plan.plain rfl fun K hK => ?_)
    go_wp2_with (fail)
    refine hK _ _ (ExtM.refl _) ?_
    clear hK K
    refine Plan.left_q 18 (by rfl) (by kernel_rfl) ?_; go_big_quiet_step (fail); refine wpQuiet_nil ?_
    refine Plan.left_one 19 (by kernel_rfl) (by rfl) (Plan.last rfl (by kernel_rfl) fun K hK => ?_)
    go_wp2_with (fail)
    refine Plan.left_done (by kernel_rfl) ?_
  rotate_left
  focus
    go_wp2_with (fail)
    refine hK _ _ ((ExtM.refl _).alloc _) ?_
    clear hK K
    refine Plan.left_one 11 (by kernel_rfl) (by rfl) (Plan.plain rfl fun K hK => ?_)
    go_wp2_with (fail)
    refine (from_c S o _ hs k (t + 1) _ (by first | exact hS2.ext hxd | exact hS2.ext (hxd.alloc _)) (by omega)).mono ?_
    rintro e w2 ⟨rfl, h2⟩
    have H2 := ExtR.trans _ _ _ ((ExtR.refl _).drew.alloc _) (ExtR.of_ext (R := (Value.slice p hs.length cap).ownBlock) h2)
    obtain ⟨hc2, hf2, -⟩ := ExtR.rules H2
    have hs2_0 : S < w2.heap.size := by have := H2.size; (try simp at this); omega
    have hs2_1 : w.heap.size < w2.heap.size := by have := H2.size; (try simp at this); omega
    go_wp2_with (fail)
    refine hK _ _ (ExtR.of_ext (R := (Value.slice p hs.length cap).ownBlock) h2) ?_
    clear hK K
    refine Plan.left_one 16 (by kernel_rfl) (by rfl) (Plan.plain rfl fun K hK => ?_)
    go_wp2_with (fail)
    refine (insert_h _ hs (fromN k (t + 1) hs) _ ⟨⟨k, t, q⟩, m⟩ _ (by first | exact hrow2.extF (ExtM.alloc (ExtM.trans _ _ _ hxd h2) _) | exact hrow2.extF (ExtM.trans _ _ _ (hxd.alloc _) h2)) (by first | exact ⟨heap_alloc_new _ _⟩ | exact ⟨(h2.block _ (by simp) id).trans (heap_alloc_new _ _)⟩) (fromN_le _ _ _) (hrow2.ne (by have h9 := h2.size; (try simp at h9 ⊢); (try omega))) (by omega)).mono ?_
    rintro e w3 ⟨p', n', cap', rfl, h3, hrow3, hown3⟩
    clear hc2 hf2 hs2_0 hs2_1
    have H3 := ExtR.trans _ _ _ H2 h3
    obtain ⟨hc3, hf3, -⟩ := ExtR.rules H3
    have hs3_0 : S < w3.heap.size := by have := H3.size; (try simp at this); omega
    have hs3_1 : w.heap.size < w3.heap.size := by have := H3.size; (try simp at this); omega
    go_wp2_with (fail)
    refine hK _ _ h3 ?_
    clear hK K
    refine Plan.left_one 17 (by kernel_rfl) (by rfl) (Plan.plain rfl fun K hK => ?_)
    go_wp2_with (fail)
    refine hK _ _ (ExtM.refl _) ?_
    clear hK K
    refine Plan.left_q 18 (by rfl) (by kernel_rfl) ?_; go_big_quiet_step (fail); refine wpQuiet_nil ?_
    refine Plan.left_one 19 (by kernel_rfl) (by rfl) (Plan.last rfl (by kernel_rfl) fun K hK => ?_)
    go_wp2_with (fail)
    refine Plan.left_done (by kernel_rfl) ?_
  all_goals
    go_wp2
    go_ret
    refine ⟨rfl, side_set h (ExtM.trans _ _ _ (hx0.mono (fun _ _ h => h.elim)) H3) hrow3 ?_ (addH_sorted h.srt _)⟩
    rcases hown3 with h4 | ⟨k', h4, h5⟩
    · exact .inl h4
    · have := h2.size
      simp at h5 this
      exact .inr ⟨k', h4, by omega⟩

theorem side_same {w w' : World} {S o : Nat} {v : Value} {hs : List Hd} (h : SideIs w S o v hs) (hx : Ext w w') : SideUp w w' S o v hs :=
  ⟨⟨v, h.ext hx, .inl rfl⟩, hx.mono (fun _ _ h => h.elim), fun _ _ => hx.rules.1 _ _ h.lt, fun _ => hx.rules.2.1 _ _ h.lt⟩

set_option maxRecDepth 100000 in
set_option maxHeartbeats 4000000 in
theorem addBad_c (S o : Nat) (v : Value) (hs : List Hd) (k t q m : Int) (w : World) (h : SideIs w S o v hs) (hb : (goodB k t q && decide (0 ≤ m)) = false) :
    Calls Tryz.prog 81 #[.pointer (some ⟨S, o, none⟩), .agg #[.int .i64 k, .int .i64 t, .int .i64 q], .int .i64 m] w fun e w' => e = .returned (errV 1) ∧ SideUp w w' S o v hs := by
  cases hg : goodB k t q with
  | false =>
    go_enter Tryz.func81, Tryz.ntmps81
    go_wp2_with (
      go_at_call 76
      refine (good_c _ _ _ _).mono ?_
      rintro e w1 ⟨rfl, hx⟩
      rw [hg])
    go_ret
    exact ⟨rfl, side_same h (ExtM.trans _ _ _ ((ExtM.refl _).alloc _) hx)⟩
  | true =>
    have hd1 : decide (m < 0) = true := by
      rw [hg] at hb
      simp at hb ⊢
      omega
    go_enter Tryz.func81, Tryz.ntmps81
    go_wp2_with (
      go_at_call 76
      refine (good_c _ _ _ _).mono ?_
      rintro e w1 ⟨rfl, hx⟩
      rw [hg])
    go_ret
    exact ⟨rfl, side_same h (ExtM.trans _ _ _ ((ExtM.refl _).alloc _) hx)⟩

set_option maxRecDepth 100000 in
set_option maxHeartbeats 4000000 in
theorem addFull_c (S o : Nat) (v : Value) (hs : List Hd) (k t q m : Int) (w : World) (h : SideIs w S o v hs) (hg : goodB k t q = true) (hm : 0 ≤ m) (hl : 300 ≤ hs.length) :
    Calls Tryz.prog 81 #[.pointer (some ⟨S, o, none⟩), .agg #[.int .i64 k, .int .i64 t, .int .i64 q], .int .i64 m] w fun e w' => e = .returned (errV 12) ∧ SideUp w w' S o v hs := by
  have hd1 : decide (m < 0) = false := by simp; omega
  have hd2 : decide ((300 : Int) ≤ (hs.length : Int)) = true := by simp; omega
  have h0 := h
  have c0 := h.c0
  have hlt := h.lt
  obtain ⟨p, cap, rfl, -⟩ := own_slice h.row
  clear h
  go_enter Tryz.func81, Tryz.ntmps81
  go_wp2_with (
    go_at_call 76
    refine (good_c _ _ _ _).mono ?_
    rintro e w1 ⟨rfl, hx⟩
    rw [hg]
    have c1 : w1.cell? ⟨S, o, none⟩ = some (.slice p hs.length cap) := ((h0.ext ((ExtM.refl w).alloc _)).ext hx).c0)
  go_ret
  exact ⟨rfl, side_same h0 (ExtM.trans _ _ _ ((ExtM.refl _).alloc _) hx)⟩

theorem add_c (S o : Nat) (v : Value) (hs : List Hd) (x : Hd) (w : World) (h : SideIs w S o v hs) :
    Calls Tryz.prog 81 #[.pointer (some ⟨S, o, none⟩), .agg #[.int .i64 x.r.k, .int .i64 x.r.t, .int .i64 x.r.v], .int .i64 x.m] w fun e w' => e = .returned (errV (addE hs x)) ∧ SideUp w w' S o v (addL hs x) := by
  unfold addL addE
  split
  · rename_i hb
    exact addBad_c S o v hs _ _ _ _ w h hb
  · rename_i hb
    have hg : goodB x.r.k x.r.t x.r.v = true ∧ 0 ≤ x.m := by simpa using hb
    split
    · rename_i hf
      exact addFull_c S o v hs _ _ _ _ w h hg.1 hg.2 hf
    · rename_i hf
      exact addIn_c S o v hs _ _ _ _ w h hg.1 hg.2 (by omega)

set_option maxRecDepth 100000 in
theorem many_c (S o : Nat) (v : Value) (hs : List Hd) (w : World) (h : SideIs w S o v hs) :
    Calls Tryz.prog 64 #[.pointer (some ⟨S, o, none⟩)] w fun e w' => e = .returned (.int .i64 (hs.length : Nat)) ∧ w' = w := by
  have c0 := h.c0
  obtain ⟨p, cap, rfl, -⟩ := own_slice h.row
  go_enter Tryz.func64, Tryz.ntmps64
  go_wp2
  go_ret
  exact ⟨rfl, rfl⟩
end Go.Proofs.YtmcgnnmffeojpaaGreatDoor
