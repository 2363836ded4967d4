/- What the functions of the packages row and estuaryref (1.1) compute: contracts of each, the second part. The reference's order of what comes of rows (1.1). What the functions of the packages row and estuaryref (1.1) compute: contracts of each, the last part. -/
import Derived.Test.YtmcgnnmffeojpaaGreatDoorPk1
import Derived.Test.YtmcgnnmffeojpaaGreatDoorProg
import Derived.Deep.AppendLies
/- What the functions of the packages row and estuaryref (1.1) compute: contracts of each. -/
namespace Go.Proofs.YtmcgnnmffeojpaaGreatDoor
open Go.RowKit Go.Plan

theorem ret_int {k : IntKind} {a b : Int} (h : a = b) : Ending.returned (.int k a) = .returned (.int k b) := by rw [h]
theorem ret_bool {a b : Bool} (h : a = b) : Ending.returned (.bool a) = .returned (.bool b) := by rw [h]

/-! ### cmp -/
def cmpI (x y : Int) : Int := if x < y then -1 else if y < x then 1 else 0

theorem isNaN_c (x : Int) (w : World) : Calls Tryz.prog 99 #[.int .i64 x] w fun e w' => e = .returned (.bool false) ∧ w = w' := by
  go_enter Tryz.func99, Tryz.ntmps99
  go_wp2
  go_ret
  simp

theorem cmp_c (x y : Int) (w : World) : Calls Tryz.prog 91 #[.int .i64 x, .int .i64 y] w fun e w' => e = .returned (.int .i64 (cmpI x y)) ∧ w = w' := by
  rcases Int.lt_trichotomy x y with h | h | h
  · have hc : cmpI x y = -1 := by simp [cmpI, h]
    rw [hc]
    go_enter Tryz.func91, Tryz.ntmps91
    go_wp2_with (go_at_call 99; refine (isNaN_c _ _).mono ?_; rintro e w' ⟨rfl, rfl⟩)
    go_ret
    exact ⟨rfl, rfl⟩
  · subst h
    have hc : cmpI x x = 0 := by simp [cmpI]
    rw [hc]
    go_enter Tryz.func91, Tryz.ntmps91
    go_wp2_with (go_at_call 99; refine (isNaN_c _ _).mono ?_; rintro e w' ⟨rfl, rfl⟩)
    go_ret
    exact ⟨rfl, rfl⟩
  · have hc : cmpI x y = 1 := by simp [cmpI, h]; omega
    rw [hc]
    go_enter Tryz.func91, Tryz.ntmps91
    go_wp2_with (go_at_call 99; refine (isNaN_c _ _).mono ?_; rintro e w' ⟨rfl, rfl⟩)
    go_ret
    exact ⟨rfl, rfl⟩

def orI : List Int → Int
  | [] => 0
  | x :: r => if x = 0 then orI r else x

theorem orI_skip (xs : List Int) (k : Nat) (h : ∀ j, j < k → xs.getD j 0 = 0) : orI (xs.drop k) = orI xs := by
  induction k generalizing xs with
  | zero => rfl
  | succ k ih =>
    cases xs with
    | nil => simp
    | cons x r =>
      have h0 := h 0 (by omega)
      simp at h0
      simp only [List.drop_succ_cons, orI, h0, if_true]
      exact ih r (fun j hj => by simpa using h (j+1) (by omega))

theorem orI_at (xs : List Int) (k : Nat) (h : ∀ j, j < k → xs.getD j 0 = 0) (hk : k < xs.length) (hn : xs.getD k 0 ≠ 0) : orI xs = xs.getD k 0 := by
  rw [← orI_skip xs k h]
  rw [List.drop_eq_getElem_cons hk]
  simp [orI]
  simp [hk] at hn
  simp [hn, hk]

theorem orI_end (xs : List Int) (h : ∀ j, j < xs.length → xs.getD j 0 = 0) : orI xs = 0 := by
  rw [← orI_skip xs xs.length h]
  simp [orI]

def intsAt (w : World) (b off : Nat) (xs : List Int) : Prop := ∀ i, i < xs.length → w.cell? ⟨b, off + i, none⟩ = some (.int .i64 (xs.getD i 0))

theorem or_c (xs : List Int) (b off cap : Nat) (w : World) (hc : intsAt w b off xs) (hl : xs.length ≤ 100) :
    Calls Tryz.prog 90 #[.slice (some ⟨b, off, none⟩) xs.length cap] w fun e w' => e = .returned (.int .i64 (orI xs)) ∧ w = w' := by
  go_enter Tryz.func90, Tryz.ntmps90
  go_wp2
  go_loop [5, 8] (fun _ i => ∃ k : Nat, k ≤ xs.length ∧ i = .int .i64 k ∧ ∀ j, j < k → xs.getD j 0 = 0) (fun _ i => xs.length - (intOf i).toNat)
  case atStart => exact ⟨0, by omega, rfl, fun j hj => by omega⟩
  case round =>
    obtain ⟨k, hk, rfl, hz⟩ := hrel
    by_cases hlt : k < xs.length
    · have hcell := hc k hlt
      have HZ : Hid (∀ j, j < k → xs.getD j 0 = 0) := hz
      have HL : Hid (xs.length ≤ 100) := hl
      clear hz hc
      generalize hx : xs.getD k 0 = x at hcell
      have HX : Hid (xs.getD k 0 = x) := hx
      clear hx
      by_cases h0 : x = 0
      · subst h0
        go_wp2
        go_round
        case rel => exact ⟨k + 1, by omega, by go_num, fun j hj => by
          rcases Nat.lt_or_ge j k with h | h
          · exact HZ.out j h
          · obtain rfl : j = k := by omega
            exact HX.out⟩
        case measure => simp [intOf]; omega
      · go_wp2
        go_ret
        exact ⟨ret_int (by rw [orI_at xs k HZ.out hlt (by rw [HX.out]; exact h0), HX.out]), rfl⟩
    · obtain rfl : k = xs.length := by omega
      have HZ : Hid (∀ j, j < xs.length → xs.getD j 0 = 0) := hz
      clear hz hc
      go_wp2
      go_ret
      exact ⟨ret_int (by rw [orI_end xs HZ.out]), rfl⟩

/-! ### the reference's order of two lists -/
def ordI : List Int → List Int → Int
  | x :: xs, y :: ys => if x < y then -1 else if y < x then 1 else ordI xs ys
  | _, _ => 0

theorem ordI_skip (xs ys : List Int) (k : Nat) (hl : xs.length = ys.length) (h : ∀ j, j < k → xs.getD j 0 = ys.getD j 0) : ordI (xs.drop k) (ys.drop k) = ordI xs ys := by
  induction k generalizing xs ys with
  | zero => rfl
  | succ k ih =>
    match xs, ys, hl with
    | [], [], _ => simp
    | x :: xs, y :: ys, hl =>
      have h0 := h 0 (by omega)
      simp at h0
      simp only [List.drop_succ_cons, ordI, h0, Int.lt_irrefl, if_false]
      exact ih xs ys (by simpa using hl) (fun j hj => by simpa using h (j+1) (by omega))

theorem ordI_at (xs ys : List Int) (k : Nat) (hl : xs.length = ys.length) (h : ∀ j, j < k → xs.getD j 0 = ys.getD j 0) (hk : k < xs.length) :
    ordI xs ys = if xs.getD k 0 < ys.getD k 0 then -1 else if ys.getD k 0 < xs.getD k 0 then 1 else ordI (xs.drop (k+1)) (ys.drop (k+1)) := by
  rw [← ordI_skip xs ys k hl h, List.drop_eq_getElem_cons hk, List.drop_eq_getElem_cons (by omega : k < ys.length)]
  have hk' : k < ys.length := by omega
  simp [ordI, hk, hk']

theorem ordI_end (xs ys : List Int) (hl : xs.length = ys.length) (h : ∀ j, j < xs.length → xs.getD j 0 = ys.getD j 0) : ordI xs ys = 0 := by
  rw [← ordI_skip xs ys xs.length hl h, hl]
  simp [ordI]

def compareI (k1 t1 v1 k2 t2 v2 : Int) : Int := orI [cmpI k1 k2, cmpI t1 t2, cmpI v1 v2]

theorem compare_c (k1 t1 v1 k2 t2 v2 : Int) (w : World) :
    Calls Tryz.prog 93 #[.agg #[.int .i64 k1, .int .i64 t1, .int .i64 v1], .agg #[.int .i64 k2, .int .i64 t2, .int .i64 v2]] w fun e w' =>
      e = .returned (.int .i64 (compareI k1 t1 v1 k2 t2 v2)) ∧ Ext w w' := by
  unfold compareI
  go_enter Tryz.func93, Tryz.ntmps93
  go_wp2_with fail
  refine Plan.begin Plan.Ext 18 rfl (by kernel_rfl) ?_
  refine Plan.left_q 0 (by rfl) (by kernel_rfl) ?_; go_big_quiet_step (fail); refine wpQuiet_nil ?_
  refine Plan.left_q 1 (by rfl) (by kernel_rfl) ?_; go_big_quiet_step (fail); refine wpQuiet_nil ?_
  refine Plan.left_q 2 (by rfl) (by kernel_rfl) ?_; go_big_quiet_step (fail); refine wpQuiet_nil ?_
  refine Plan.left_q 3 (by rfl) (by kernel_rfl) ?_; go_big_quiet_step (fail); refine wpQuiet_nil ?_
  refine Plan.left_q 5 (by rfl) (by kernel_rfl) ?_; go_big_quiet_step (fail); refine wpQuiet_nil ?_
  refine Plan.left_q 6 (by rfl) (by kernel_rfl) ?_; go_big_quiet_step (fail); refine wpQuiet_nil ?_
  refine Plan.left_q 7 (by rfl) (by kernel_rfl) ?_; go_big_quiet_step (fail); refine wpQuiet_nil ?_
  refine Plan.left_q 8 (by rfl) (by kernel_rfl) ?_; go_big_quiet_step (fail); refine wpQuiet_nil ?_
  refine Plan.left_q 10 (by rfl) (by kernel_rfl) ?_; go_big_quiet_step (fail); refine wpQuiet_nil ?_
  refine Plan.left_q 11 (by rfl) (by kernel_rfl) ?_; go_big_quiet_step (fail); refine wpQuiet_nil ?_
  refine Plan.left_q 12 (by rfl) (by kernel_rfl) ?_; go_big_quiet_step (fail); refine wpQuiet_nil ?_
  refine Plan.left_q 13 (by rfl) (by kernel_rfl) ?_; go_big_quiet_step (fail); refine wpQuiet_nil ?_
  refine Plan.left_one 4 (by kernel_rfl) (by rfl) (Plan.plain rfl fun K hK => ?_)
  go_wp2_with (fail)
  refine (cmp_c _ _ _).mono ?_
  rintro e w' ⟨rfl, rfl⟩
  go_wp2_with (fail)
  refine hK _ _ (ExtM.refl _) ?_
  clear hK K
  refine Plan.left_one 9 (by kernel_rfl) (by rfl) (Plan.plain rfl fun K hK => ?_)
  go_wp2_with (fail)
  refine (cmp_c _ _ _).mono ?_
  rintro e w' ⟨rfl, rfl⟩
  go_wp2_with (fail)
  refine hK _ _ (ExtM.refl _) ?_
  clear hK K
  refine Plan.left_one 14 (by kernel_rfl) (by rfl) (Plan.plain rfl fun K hK => ?_)
  go_wp2_with (fail)
  refine (cmp_c _ _ _).mono ?_
  rintro e w' ⟨rfl, rfl⟩
  go_wp2_with (fail)
  refine hK _ _ (ExtM.refl _) ?_
  clear hK K
  refine Plan.left_one 15 (by kernel_rfl) (by rfl) (Plan.plain rfl fun K hK => ?_)
  go_wp2_with (fail)
  refine hK _ _ ((ExtM.refl _).alloc _) ?_
  clear hK K
  refine Plan.left_one 16 (by kernel_rfl) (by rfl) (Plan.plain rfl fun K hK => ?_)
  go_wp2_with (fail)
  refine (or_c [cmpI k1 k2, cmpI t1 t2, cmpI v1 v2] _ _ _ _ ?_ (by simp)).mono ?_
  · intro i hi; simp only [List.length_cons, List.length_nil] at hi; have hi5 : i = 0 ∨ i = 1 ∨ i = 2 ∨ i = 3 ∨ i = 4 := (by omega); rcases hi5 with rfl | rfl | rfl | rfl | rfl <;> first | (exfalso; omega) | go_simp
  rintro e w' ⟨rfl, rfl⟩
  go_wp2_with (fail)
  refine hK _ _ (ExtM.refl _) ?_
  clear hK K
  refine Plan.left_q 17 (by rfl) (by kernel_rfl) ?_; go_big_quiet_step (fail); refine wpQuiet_nil ?_
  refine Plan.left_done (by kernel_rfl) ?_
  go_wp2
  go_ret
  exact ⟨rfl, ((((ExtM.refl _).alloc _).alloc _).alloc _).drew⟩
end Go.Proofs.YtmcgnnmffeojpaaGreatDoor
-- Row2
namespace Go.Proofs.YtmcgnnmffeojpaaGreatDoor
open Go.RowKit Go.Plan

theorem intsAt_ext {w w' : World} {b off : Nat} {xs : List Int} (h : intsAt w b off xs) (he : Ext w w') (hb : b < w.heap.size) : intsAt w' b off xs :=
  fun i hi => by rw [he.cell (p := ⟨b, off + i, none⟩) hb id]; exact h i hi

theorem intsAt_own {w : World} {base : Nat} {e : TypeId} {g n cap : Nat} {xs : List Int} (h : w.ownsRow base e 1 (.slice (some ⟨g, 0, none⟩) n cap) n (xs.map (Value.int .i64))) (hn : n = xs.length) : intsAt w g 0 xs := by
  intro i hi
  rw [Nat.zero_add, h.cellAt i (by omega)]
  simp [hi]

/-- A slice of these numbers, in memory that was not there. -/
def Ints (w : World) (xs : List Int) (e : Ending) (w' : World) : Prop :=
  ∃ b cap, e = .returned (.slice (some ⟨b, 0, none⟩) xs.length cap) ∧ intsAt w' b 0 xs ∧ w.heap.size ≤ b ∧ b < w'.heap.size ∧ Ext w w'

def rcompareI (k1 t1 v1 k2 t2 v2 : Int) : Int := ordI [k1, t1, v1] [k2, t2, v2]

def flagI (b : Bool) : Int := if b then 1 else 0

theorem flag_c (b : Bool) (w : World) : Calls Tryz.prog 92 #[.bool b] w fun e w' => e = .returned (.int .i64 (flagI b)) ∧ w = w' := by
  cases b
  · go_enter Tryz.func92, Tryz.ntmps92
    go_wp2
    go_ret
    exact ⟨rfl, rfl⟩
  · go_enter Tryz.func92, Tryz.ntmps92
    go_wp2
    go_ret
    exact ⟨rfl, rfl⟩

structure Row where
  k : Int
  t : Int
  v : Int
  deriving DecidableEq

structure Out where
  key : Int
  l : Row
  r : Row
  hl : Bool
  hr : Bool
  deriving DecidableEq

def compareOutI (a b : Out) : Int :=
  orI [cmpI a.key b.key, cmpI (flagI a.hl) (flagI b.hl), compareI a.l.k a.l.t a.l.v b.l.k b.l.t b.l.v, cmpI (flagI a.hr) (flagI b.hr), compareI a.r.k a.r.t a.r.v b.r.k b.r.t b.r.v]

theorem compareOut_c (a b : Out) (w : World) :
    Calls Tryz.prog 55 #[.agg #[.int .i64 a.key, .int .i64 a.l.k, .int .i64 a.l.t, .int .i64 a.l.v, .int .i64 a.r.k, .int .i64 a.r.t, .int .i64 a.r.v, .bool a.hl, .bool a.hr], .agg #[.int .i64 b.key, .int .i64 b.l.k, .int .i64 b.l.t, .int .i64 b.l.v, .int .i64 b.r.k, .int .i64 b.r.t, .int .i64 b.r.v, .bool b.hl, .bool b.hr]] w fun e w' =>
      e = .returned (.int .i64 (compareOutI a b)) ∧ Ext w w' := by
  unfold compareOutI
  obtain ⟨k1, ⟨lk1, lt1, lv1⟩, ⟨rk1, rt1, rv1⟩, hl1, hr1⟩ := a
  obtain ⟨k2, ⟨lk2, lt2, lv2⟩, ⟨rk2, rt2, rv2⟩, hl2, hr2⟩ := b
  simp only
  go_enter Tryz.func55, Tryz.ntmps55
  go_wp2_with fail
  refine Plan.begin Plan.Ext 32 rfl (by kernel_rfl) ?_
  refine Plan.left_q 0 (by rfl) (by kernel_rfl) ?_; go_big_quiet_step (fail); refine wpQuiet_nil ?_
  refine Plan.left_q 1 (by rfl) (by kernel_rfl) ?_; go_big_quiet_step (fail); refine wpQuiet_nil ?_
  refine Plan.left_q 2 (by rfl) (by kernel_rfl) ?_; go_big_quiet_step (fail); refine wpQuiet_nil ?_
  refine Plan.left_q 3 (by rfl) (by kernel_rfl) ?_; go_big_quiet_step (fail); refine wpQuiet_nil ?_
  refine Plan.left_q 5 (by rfl) (by kernel_rfl) ?_; go_big_quiet_step (fail); refine wpQuiet_nil ?_
  refine Plan.left_q 6 (by rfl) (by kernel_rfl) ?_; go_big_quiet_step (fail); refine wpQuiet_nil ?_
  refine Plan.left_q 8 (by rfl) (by kernel_rfl) ?_; go_big_quiet_step (fail); refine wpQuiet_nil ?_
  refine Plan.left_q 9 (by rfl) (by kernel_rfl) ?_; go_big_quiet_step (fail); refine wpQuiet_nil ?_
  refine Plan.left_q 12 (by rfl) (by kernel_rfl) ?_; go_big_quiet_step (fail); refine wpQuiet_nil ?_
  refine Plan.left_q 13 (by rfl) (by kernel_rfl) ?_; go_big_quiet_step (fail); refine wpQuiet_nil ?_
  refine Plan.left_q 14 (by rfl) (by kernel_rfl) ?_; go_big_quiet_step (fail); refine wpQuiet_nil ?_
  refine Plan.left_q 15 (by rfl) (by kernel_rfl) ?_; go_big_quiet_step (fail); refine wpQuiet_nil ?_
  refine Plan.left_q 17 (by rfl) (by kernel_rfl) ?_; go_big_quiet_step (fail); refine wpQuiet_nil ?_
  refine Plan.left_q 18 (by rfl) (by kernel_rfl) ?_; go_big_quiet_step (fail); refine wpQuiet_nil ?_
  refine Plan.left_q 20 (by rfl) (by kernel_rfl) ?_; go_big_quiet_step (fail); refine wpQuiet_nil ?_
  refine Plan.left_q 21 (by rfl) (by kernel_rfl) ?_; go_big_quiet_step (fail); refine wpQuiet_nil ?_
  refine Plan.left_q 24 (by rfl) (by kernel_rfl) ?_; go_big_quiet_step (fail); refine wpQuiet_nil ?_
  refine Plan.left_q 25 (by rfl) (by kernel_rfl) ?_; go_big_quiet_step (fail); refine wpQuiet_nil ?_
  refine Plan.left_q 26 (by rfl) (by kernel_rfl) ?_; go_big_quiet_step (fail); refine wpQuiet_nil ?_
  refine Plan.left_q 27 (by rfl) (by kernel_rfl) ?_; go_big_quiet_step (fail); refine wpQuiet_nil ?_
  refine Plan.left_one 4 (by kernel_rfl) (by rfl) (Plan.plain rfl fun K hK => ?_)
  go_wp2_with (fail)
  refine (cmp_c _ _ _).mono ?_
  rintro e w' ⟨rfl, rfl⟩
  go_wp2_with (fail)
  refine hK _ _ (ExtM.refl _) ?_
  clear hK K
  refine Plan.left_one 7 (by kernel_rfl) (by rfl) (Plan.plain rfl fun K hK => ?_)
  go_wp2_with (fail)
  refine (flag_c _ _).mono ?_
  rintro e w' ⟨rfl, rfl⟩
  go_wp2_with (fail)
  refine hK _ _ (ExtM.refl _) ?_
  clear hK K
  refine Plan.left_one 10 (by kernel_rfl) (by rfl) (Plan.plain rfl fun K hK => ?_)
  go_wp2_with (fail)
  refine (flag_c _ _).mono ?_
  rintro e w' ⟨rfl, rfl⟩
  go_wp2_with (fail)
  refine hK _ _ (ExtM.refl _) ?_
  clear hK K
  refine Plan.left_one 11 (by kernel_rfl) (by rfl) (Plan.plain rfl fun K hK => ?_)
  go_wp2_with (fail)
  refine (cmp_c _ _ _).mono ?_
  rintro e w' ⟨rfl, rfl⟩
  go_wp2_with (fail)
  refine hK _ _ (ExtM.refl _) ?_
  clear hK K
  refine Plan.left_one 16 (by kernel_rfl) (by rfl) (Plan.plain rfl fun K hK => ?_)
  go_wp2_with (fail)
  refine (compare_c _ _ _ _ _ _ _).mono ?_
  rintro e w1 ⟨rfl, h1⟩
  have H1 := ExtM.trans _ _ _ (ExtM.refl _).drew h1
  obtain ⟨hc1, hf1, -⟩ := Ext.rules H1
  have hs1_0 : w.heap.size < w1.heap.size := by have := H1.size; (try simp at this); omega
  have hs1_1 : w.heap.size + 1 < w1.heap.size := by have := H1.size; (try simp at this); omega
  go_wp2_with (fail)
  refine hK _ _ h1 ?_
  clear hK K
  refine Plan.left_one 19 (by kernel_rfl) (by rfl) (Plan.plain rfl fun K hK => ?_)
  go_wp2_with (fail)
  refine (flag_c _ _).mono ?_
  rintro e w' ⟨rfl, rfl⟩
  go_wp2_with (fail)
  refine hK _ _ (ExtM.refl _) ?_
  clear hK K
  refine Plan.left_one 22 (by kernel_rfl) (by rfl) (Plan.plain rfl fun K hK => ?_)
  go_wp2_with (fail)
  refine (flag_c _ _).mono ?_
  rintro e w' ⟨rfl, rfl⟩
  go_wp2_with (fail)
  refine hK _ _ (ExtM.refl _) ?_
  clear hK K
  refine Plan.left_one 23 (by kernel_rfl) (by rfl) (Plan.plain rfl fun K hK => ?_)
  go_wp2_with (fail)
  refine (cmp_c _ _ _).mono ?_
  rintro e w' ⟨rfl, rfl⟩
  go_wp2_with (fail)
  refine hK _ _ (ExtM.refl _) ?_
  clear hK K
  refine Plan.left_one 28 (by kernel_rfl) (by rfl) (Plan.plain rfl fun K hK => ?_)
  go_wp2_with (fail)
  refine (compare_c _ _ _ _ _ _ _).mono ?_
  rintro e w2 ⟨rfl, h2⟩
  clear hc1 hf1 hs1_0 hs1_1
  have H2 := ExtM.trans _ _ _ H1 h2
  obtain ⟨hc2, hf2, -⟩ := Ext.rules H2
  have hs2_0 : w.heap.size < w2.heap.size := by have := H2.size; (try simp at this); omega
  have hs2_1 : w.heap.size + 1 < w2.heap.size := by have := H2.size; (try simp at this); omega
  go_wp2_with (fail)
  refine hK _ _ h2 ?_
  clear hK K
  refine Plan.left_one 29 (by kernel_rfl) (by rfl) (Plan.plain rfl fun K hK => ?_)
  go_wp2_with (fail)
  refine hK _ _ ((ExtM.refl _).alloc _) ?_
  clear hK K
  refine Plan.left_one 30 (by kernel_rfl) (by rfl) (Plan.plain rfl fun K hK => ?_)
  go_wp2_with (fail)
  refine (or_c [cmpI k1 k2, cmpI (flagI hl1) (flagI hl2), compareI lk1 lt1 lv1 lk2 lt2 lv2, cmpI (flagI hr1) (flagI hr2), compareI rk1 rt1 rv1 rk2 rt2 rv2] _ _ _ _ ?_ (by simp)).mono ?_
  · intro i hi; simp only [List.length_cons, List.length_nil] at hi; have hi5 : i = 0 ∨ i = 1 ∨ i = 2 ∨ i = 3 ∨ i = 4 := (by omega); rcases hi5 with rfl | rfl | rfl | rfl | rfl <;> first | (exfalso; omega) | go_simp
  rintro e w' ⟨rfl, rfl⟩
  go_wp2_with (fail)
  refine hK _ _ (ExtM.refl _) ?_
  clear hK K
  refine Plan.left_q 31 (by rfl) (by kernel_rfl) ?_; go_big_quiet_step (fail); refine wpQuiet_nil ?_
  refine Plan.left_done (by kernel_rfl) ?_
  go_wp2
  go_ret
  exact ⟨rfl, by repeat (first | exact ExtM.refl _ | refine ExtM.drew ?_ | refine ExtM.alloc ?_ _ | refine ExtM.trans _ _ _ ?_ (by assumption))⟩
end Go.Proofs.YtmcgnnmffeojpaaGreatDoor

-- Row3
namespace Go.Proofs.YtmcgnnmffeojpaaGreatDoor
open Go.RowKit Go.Plan

theorem infoInt : (Tryz.prog.info? 3).map (fun i => (i.zero, i.size, i.bytes)) = some (some (.int .i64 0), 1, 8) := by kernel_rfl

theorem news_ints {w : World} {b : Nat} {xs : List Int} (h : intsAt w b 0 xs) : ∀ (j : Nat) (u : Value), (xs.map (Value.int .i64))[j]? = some u → w.cell? ((⟨b, 0, none⟩ : Addr).add j) = some u := fun j u hu => by
  have hadd : (⟨b, 0, none⟩ : Addr).add j = ⟨b, j, none⟩ := by unfold Addr.add; split <;> simp_all
  rw [List.getElem?_map, Option.map_eq_some_iff] at hu
  obtain ⟨x, hx, rfl⟩ := hu
  have hj : j < xs.length := (List.getElem?_eq_some_iff.1 hx).1
  have := h j hj
  rw [Nat.zero_add] at this
  rw [hadd, this]
  simp [List.getD, hx]

theorem one_ints (xs : List Int) : ∀ u ∈ xs.map (Value.int .i64), u.oneCell' = true := by
  intro u hu; obtain ⟨x, _, rfl⟩ := List.mem_map.1 hu; rfl

/-- 'append(v, x...)' of ints of the call's own, at an operation. -/
theorem wp_append_ints {o : Oper} {a : Act} {w : World} {K : Act → World → Prop} {Q : Exit → Act → World → Prop} (s x : Operand)
    (ho : o.op = .call { callee := .builtin .append, args := #[s, x], argTypes := #[52, 52] })
    (base g n c : Nat) (xs : List Int) (hs : a.eval s = .slice (some ⟨g, 0, none⟩) n c) (hown : w.ownsRow base 3 1 (.slice (some ⟨g, 0, none⟩) n c) n (xs.map (Value.int .i64)))
    (b m c2 : Nat) (news : List Int) (hx : a.eval x = .slice (some ⟨b, 0, none⟩) m c2) (hl : news.length = m) (hnews : intsAt w b 0 news)
    (hm : 0 < m) (h63 : n + m ≤ 1000) (hbase : base ≤ w.heap.size)
    (h : ∀ g' cap w', w'.ownsRow base 3 1 (.slice (some ⟨g', 0, none⟩) (n + m) cap) (n + m) ((xs ++ news).map (Value.int .i64)) → w.grownBy w' (some g) → (g' = g ∨ g' = w.heap.size) → g' < w'.heap.size → K (a.put o.dst (.slice (some ⟨g', 0, none⟩) (n + m) cap)) w') : o.wp Tryz.prog a w K Q := by
  obtain ⟨i0, hi, hz0, hz1, hz2⟩ := info_parts infoInt
  refine wp_append_lies w s x 52 ho base 3 i0 (.int .i64 0) 1 8 Tryz.underlying52 hi hz0 hz1 hz2 rfl (by decide) _ n _ hs hown ⟨b, 0, none⟩ m c2 (news.map (Value.int .i64)) hx (by simp [hl]) (news_ints hnews) (one_ints _) hm (by unfold maxLen; omega) (by omega) hbase _ rfl ?_
  intro g' cap w' h1 h2 h3 h4
  refine h g' cap w' (by rw [List.map_append]; exact h1) h2 (by rcases h3 with h3 | h3; left; simp [Value.ownBlock] at h3; exact h3.symm; right; exact h3) h4

theorem owns_new {w : World} {xs : List Int} {n g : Nat} (hn : n = xs.length) (hm : n ≤ 1000) {base : Nat} (hb : base ≤ w.heap.size) (hg : w.heap.size = g) : (w.alloc (.cells (xs.map (Value.int .i64)).toArray 3)).ownsRow base 3 1 (.slice (some ⟨g, 0, none⟩) n n) n (xs.map (Value.int .i64)) := by
  subst hg
  refine ⟨by simp [hn], .inr ⟨w.heap.size, n, _, rfl, hb, heap_alloc_new w _, Nat.le_refl _, by unfold maxLen; omega, by simp [hn], by simp [hn, List.take_of_length_le]⟩⟩

theorem owns_ext {w w' : World} {base : Nat} {e : TypeId} {size n : Nat} {v : Value} {xs : List Value} (h : w.ownsRow base e size v n xs) (he : Ext w w') : w'.ownsRow base e size v n xs :=
  h.kept (row := none) ⟨he.os, he.tape, he.output, he.size, fun k hk _ => he.block k hk id⟩ (by cases hv : v.ownBlock <;> simp)

theorem intsAt_grown {w w' : World} {b : Nat} {row : Option Nat} {xs : List Int} (h : intsAt w b 0 xs) (hg : w.grownBy w' row) (hb : b < w.heap.size) (hne : some b ≠ row) : intsAt w' b 0 xs :=
  fun i hi => by rw [hg.cell_far ⟨b, 0 + i, none⟩ hb hne]; exact h i hi

def outI (a : Out) : List Int := [a.key, flagI a.hl, a.l.k, a.l.t, a.l.v, flagI a.hr, a.r.k, a.r.t, a.r.v]

end Go.Proofs.YtmcgnnmffeojpaaGreatDoor

-- Row4
namespace Go.Proofs.YtmcgnnmffeojpaaGreatDoor
open Go.RowKit Go.Plan

def rcompareOutI (a b : Out) : Int := ordI (outI a) (outI b)

def inB (n : Int) : Bool := decide (-1099511627776 ≤ n ∧ n ≤ 1099511627776)

theorem inB_c (n : Int) (w : World) : Calls Tryz.prog 113 #[.int .i64 n] w fun e w' => e = .returned (.bool (inB n)) ∧ w = w' := by
  by_cases h1 : -1099511627776 ≤ n
  · by_cases h2 : n ≤ 1099511627776
    · have e1 : inB n = true := by simp [inB, h1, h2]
      rw [e1]
      go_enter Tryz.func113, Tryz.ntmps113
      go_wp2
      go_ret
      exact ⟨ret_bool (by first | (simp; done) | (simp; omega)), rfl⟩
    · have e1 : inB n = false := by simp [inB]; omega
      rw [e1]
      go_enter Tryz.func113, Tryz.ntmps113
      go_wp2
      go_ret
      exact ⟨ret_bool (by first | (simp; done) | (simp; omega)), rfl⟩
  · have e1 : inB n = false := by simp [inB]; omega
    rw [e1]
    go_enter Tryz.func113, Tryz.ntmps113
    go_wp2
    go_ret
    exact ⟨ret_bool (by first | (simp; done) | (simp; omega)), rfl⟩

def goodB (k t v : Int) : Bool := inB k && inB t && inB v

theorem good_c (k t v : Int) (w : World) : Calls Tryz.prog 76 #[.agg #[.int .i64 k, .int .i64 t, .int .i64 v]] w fun e w' => e = .returned (.bool (goodB k t v)) ∧ Ext w w' := by
  unfold goodB
  generalize hk : inB k = bk
  generalize ht : inB t = bt
  generalize hv : inB v = bv
  have ck := fun w => hk ▸ inB_c k w
  have ct := fun w => ht ▸ inB_c t w
  have cv := fun w => hv ▸ inB_c v w
  clear hk ht hv
  have Ck : Hid (∀ w, Calls Tryz.prog 113 #[.int .i64 k] w fun e w' => e = .returned (.bool bk) ∧ w = w') := ck
  have Ct : Hid (∀ w, Calls Tryz.prog 113 #[.int .i64 t] w fun e w' => e = .returned (.bool bt) ∧ w = w') := ct
  have Cv : Hid (∀ w, Calls Tryz.prog 113 #[.int .i64 v] w fun e w' => e = .returned (.bool bv) ∧ w = w') := cv
  clear ck ct cv
  cases bk
  · go_enter Tryz.func76, Tryz.ntmps76
    go_wp2_with (go_at_call 113; refine (Ck.out _).mono ?_; rintro e w' ⟨rfl, rfl⟩)
    go_ret
    exact ⟨rfl, (ExtM.refl _).alloc _⟩
  · cases bt
    · go_enter Tryz.func76, Tryz.ntmps76
      go_wp2_with fail
      refine (Ck.out _).mono ?_; rintro e w' ⟨rfl, rfl⟩
      go_wp2_with fail
      refine (Ct.out _).mono ?_; rintro e w' ⟨rfl, rfl⟩
      go_wp2_with fail
      go_ret
      exact ⟨rfl, (ExtM.refl _).alloc _⟩
    · go_enter Tryz.func76, Tryz.ntmps76
      go_wp2_with fail
      refine (Ck.out _).mono ?_; rintro e w' ⟨rfl, rfl⟩
      go_wp2_with fail
      refine (Ct.out _).mono ?_; rintro e w' ⟨rfl, rfl⟩
      go_wp2_with fail
      refine (Cv.out _).mono ?_; rintro e w' ⟨rfl, rfl⟩
      go_wp2_with fail
      go_ret
      exact ⟨ret_bool (by simp), (ExtM.refl _).alloc _⟩

theorem pair_c (k1 t1 v1 k2 t2 v2 : Int) (w : World) :
    Calls Tryz.prog 27 #[.agg #[.int .i64 k1, .int .i64 t1, .int .i64 v1], .agg #[.int .i64 k2, .int .i64 t2, .int .i64 v2]] w fun e w' =>
      e = .returned (.agg #[.int .i64 k1, .int .i64 k1, .int .i64 t1, .int .i64 v1, .int .i64 k2, .int .i64 t2, .int .i64 v2, .bool true, .bool true]) ∧ Ext w w' := by
  go_enter Tryz.func27, Tryz.ntmps27
  go_wp2
  refine bodyPost_ret (v := .agg #[.int .i64 k1, .int .i64 k1, .int .i64 t1, .int .i64 v1, .int .i64 k2, .int .i64 t2, .int .i64 v2, .bool true, .bool true]) (by simp [results, Tryz.results27, go_sem]) rfl ⟨rfl, ?_⟩
  exact (((ExtM.refl _).alloc _).alloc _).alloc _

def loneO (s : Int) (r : Row) : Out := if s = 0 then ⟨r.k, r, ⟨0, 0, 0⟩, true, false⟩ else ⟨r.k, ⟨0, 0, 0⟩, r, false, true⟩

theorem lone_c (s k t v : Int) (w : World) :
    Calls Tryz.prog 26 #[.int .i64 s, .agg #[.int .i64 k, .int .i64 t, .int .i64 v]] w fun e w' =>
      e = .returned (if s = 0 then .agg #[.int .i64 k, .int .i64 k, .int .i64 t, .int .i64 v, .int .i64 0, .int .i64 0, .int .i64 0, .bool true, .bool false] else .agg #[.int .i64 k, .int .i64 0, .int .i64 0, .int .i64 0, .int .i64 k, .int .i64 t, .int .i64 v, .bool false, .bool true]) ∧ Ext w w' := by
  by_cases hs : s = 0
  · rw [if_pos hs]
    subst hs
    go_enter Tryz.func26, Tryz.ntmps26
    go_wp2
    refine bodyPost_ret (v := .agg #[.int .i64 k, .int .i64 k, .int .i64 t, .int .i64 v, .int .i64 0, .int .i64 0, .int .i64 0, .bool true, .bool false]) (by simp [results, Tryz.results26, go_sem]) rfl ⟨rfl, ?_⟩
    exact ((ExtM.refl _).alloc _).alloc _
  · rw [if_neg hs]
    have hs' : (s == 0) = false := by simpa using hs
    go_enter Tryz.func26, Tryz.ntmps26
    go_wp2
    refine bodyPost_ret (v := .agg #[.int .i64 k, .int .i64 0, .int .i64 0, .int .i64 0, .int .i64 k, .int .i64 t, .int .i64 v, .bool false, .bool true]) (by simp [results, Tryz.results26, go_sem]) rfl ⟨rfl, ?_⟩
    exact ((ExtM.refl _).alloc _).alloc _

def meetsB (lo hi lk lt rk rt : Int) : Bool := decide (lk = rk) && (decide (lo ≤ wrap64 (rt - lt)) && decide (wrap64 (rt - lt) ≤ hi))

end Go.Proofs.YtmcgnnmffeojpaaGreatDoor
