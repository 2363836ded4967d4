/- What the functions of the packages row and estuaryref (1.1) compute: contracts of each, the second part. The reference's order of what comes of rows (1.1). What the functions of the packages row and estuaryref (1.1) compute: contracts of each, the last part. -/
import Derived.Test.YtggjceolhbdalaaGreatDoorRow
import Derived.Deep.AppendLies
-- Row2
namespace Go.Proofs.YtggjceolhbdalaaGreatDoor
open Go.RowKit Go.Plan

theorem intsAt_ext {w w' : World} {b off : Nat} {xs : List Int} (h : intsAt w b off xs) (he : Ext w w') (hb : b < w.heap.size) : intsAt w' b off xs :=
  fun i hi => by rw [he.cell (p := ⟨b, off + i, none⟩) hb id]; exact h i hi

theorem intsAt_own {w : World} {base : Nat} {e : TypeId} {g n cap : Nat} {xs : List Int} (h : w.ownsRow base e 1 (.slice (some ⟨g, 0, none⟩) n cap) n (xs.map (Value.int .i64))) (hn : n = xs.length) : intsAt w g 0 xs := by
  intro i hi
  rw [Nat.zero_add, h.cellAt i (by omega)]
  simp [hi]

/-- A slice of these numbers, in memory that was not there. -/
def Ints (w : World) (xs : List Int) (e : Ending) (w' : World) : Prop :=
  ∃ b cap, e = .returned (.slice (some ⟨b, 0, none⟩) xs.length cap) ∧ intsAt w' b 0 xs ∧ w.heap.size ≤ b ∧ b < w'.heap.size ∧ Ext w w'

def rcompareI (k1 t1 v1 k2 t2 v2 : Int) : Int := ordI [k1, t1, v1] [k2, t2, v2]

def flagI (b : Bool) : Int := if b then 1 else 0

structure Row where
  k : Int
  t : Int
  v : Int
  deriving DecidableEq

structure Out where
  key : Int
  l : Row
  r : Row
  hl : Bool
  hr : Bool
  deriving DecidableEq

def compareOutI (a b : Out) : Int :=
  orI [cmpI a.key b.key, cmpI (flagI a.hl) (flagI b.hl), compareI a.l.k a.l.t a.l.v b.l.k b.l.t b.l.v, cmpI (flagI a.hr) (flagI b.hr), compareI a.r.k a.r.t a.r.v b.r.k b.r.t b.r.v]

end Go.Proofs.YtggjceolhbdalaaGreatDoor

-- Row3
namespace Go.Proofs.YtggjceolhbdalaaGreatDoor
open Go.RowKit Go.Plan

theorem infoInt : (Tryz.prog.info? 3).map (fun i => (i.zero, i.size, i.bytes)) = some (some (.int .i64 0), 1, 8) := by kernel_rfl

theorem news_ints {w : World} {b : Nat} {xs : List Int} (h : intsAt w b 0 xs) : ∀ (j : Nat) (u : Value), (xs.map (Value.int .i64))[j]? = some u → w.cell? ((⟨b, 0, none⟩ : Addr).add j) = some u := fun j u hu => by
  have hadd : (⟨b, 0, none⟩ : Addr).add j = ⟨b, j, none⟩ := by unfold Addr.add; split <;> simp_all
  rw [List.getElem?_map, Option.map_eq_some_iff] at hu
  obtain ⟨x, hx, rfl⟩ := hu
  have hj : j < xs.length := (List.getElem?_eq_some_iff.1 hx).1
  have := h j hj
  rw [Nat.zero_add] at this
  rw [hadd, this]
  simp [List.getD, hx]

theorem one_ints (xs : List Int) : ∀ u ∈ xs.map (Value.int .i64), u.oneCell' = true := by
  intro u hu; obtain ⟨x, _, rfl⟩ := List.mem_map.1 hu; rfl

/-- 'append(v, x...)' of ints of the call's own, at an operation. -/
theorem wp_append_ints {o : Oper} {a : Act} {w : World} {K : Act → World → Prop} {Q : Exit → Act → World → Prop} (s x : Operand)
    (ho : o.op = .call { callee := .builtin .append, args := #[s, x], argTypes := #[77, 77] })
    (base g n c : Nat) (xs : List Int) (hs : a.eval s = .slice (some ⟨g, 0, none⟩) n c) (hown : w.ownsRow base 3 1 (.slice (some ⟨g, 0, none⟩) n c) n (xs.map (Value.int .i64)))
    (b m c2 : Nat) (news : List Int) (hx : a.eval x = .slice (some ⟨b, 0, none⟩) m c2) (hl : news.length = m) (hnews : intsAt w b 0 news)
    (hm : 0 < m) (h63 : n + m ≤ 1000) (hbase : base ≤ w.heap.size)
    (h : ∀ g' cap w', w'.ownsRow base 3 1 (.slice (some ⟨g', 0, none⟩) (n + m) cap) (n + m) ((xs ++ news).map (Value.int .i64)) → w.grownBy w' (some g) → (g' = g ∨ g' = w.heap.size) → g' < w'.heap.size → K (a.put o.dst (.slice (some ⟨g', 0, none⟩) (n + m) cap)) w') : o.wp Tryz.prog a w K Q := by
  obtain ⟨i0, hi, hz0, hz1, hz2⟩ := info_parts infoInt
  refine wp_append_lies w s x 77 ho base 3 i0 (.int .i64 0) 1 8 Tryz.underlying77 hi hz0 hz1 hz2 rfl (by decide) _ n _ hs hown ⟨b, 0, none⟩ m c2 (news.map (Value.int .i64)) hx (by simp [hl]) (news_ints hnews) (one_ints _) hm (by unfold maxLen; omega) (by omega) hbase _ rfl ?_
  intro g' cap w' h1 h2 h3 h4
  refine h g' cap w' (by rw [List.map_append]; exact h1) h2 (by rcases h3 with h3 | h3; left; simp [Value.ownBlock] at h3; exact h3.symm; right; exact h3) h4

theorem owns_new {w : World} {xs : List Int} {n g : Nat} (hn : n = xs.length) (hm : n ≤ 1000) {base : Nat} (hb : base ≤ w.heap.size) (hg : w.heap.size = g) : (w.alloc (.cells (xs.map (Value.int .i64)).toArray 3)).ownsRow base 3 1 (.slice (some ⟨g, 0, none⟩) n n) n (xs.map (Value.int .i64)) := by
  subst hg
  refine ⟨by simp [hn], .inr ⟨w.heap.size, n, _, rfl, hb, heap_alloc_new w _, Nat.le_refl _, by unfold maxLen; omega, by simp [hn], by simp [hn, List.take_of_length_le]⟩⟩

theorem owns_ext {w w' : World} {base : Nat} {e : TypeId} {size n : Nat} {v : Value} {xs : List Value} (h : w.ownsRow base e size v n xs) (he : Ext w w') : w'.ownsRow base e size v n xs :=
  h.kept (row := none) ⟨he.os, he.tape, he.output, he.size, fun k hk _ => he.block k hk id⟩ (by cases hv : v.ownBlock <;> simp)

theorem intsAt_grown {w w' : World} {b : Nat} {row : Option Nat} {xs : List Int} (h : intsAt w b 0 xs) (hg : w.grownBy w' row) (hb : b < w.heap.size) (hne : some b ≠ row) : intsAt w' b 0 xs :=
  fun i hi => by rw [hg.cell_far ⟨b, 0 + i, none⟩ hb hne]; exact h i hi

def outI (a : Out) : List Int := [a.key, flagI a.hl, a.l.k, a.l.t, a.l.v, flagI a.hr, a.r.k, a.r.t, a.r.v]

end Go.Proofs.YtggjceolhbdalaaGreatDoor

-- Row4
namespace Go.Proofs.YtggjceolhbdalaaGreatDoor
open Go.RowKit Go.Plan

def rcompareOutI (a b : Out) : Int := ordI (outI a) (outI b)

def inB (n : Int) : Bool := decide (-1099511627776 ≤ n ∧ n ≤ 1099511627776)

theorem inB_c (n : Int) (w : World) : Calls Tryz.prog 50 #[.int .i64 n] w fun e w' => e = .returned (.bool (inB n)) ∧ w = w' := by
  by_cases h1 : -1099511627776 ≤ n
  · by_cases h2 : n ≤ 1099511627776
    · have e1 : inB n = true := by simp [inB, h1, h2]
      rw [e1]
      go_enter Tryz.func50, Tryz.ntmps50
      go_wp2
      go_ret
      exact ⟨ret_bool (by first | (simp; done) | (simp; omega)), rfl⟩
    · have e1 : inB n = false := by simp [inB]; omega
      rw [e1]
      go_enter Tryz.func50, Tryz.ntmps50
      go_wp2
      go_ret
      exact ⟨ret_bool (by first | (simp; done) | (simp; omega)), rfl⟩
  · have e1 : inB n = false := by simp [inB]; omega
    rw [e1]
    go_enter Tryz.func50, Tryz.ntmps50
    go_wp2
    go_ret
    exact ⟨ret_bool (by first | (simp; done) | (simp; omega)), rfl⟩

theorem rin_c (n lo hi : Int) (w : World) : Calls Tryz.prog 24 #[.int .i64 n, .int .i64 lo, .int .i64 hi] w fun e w' => e = .returned (.bool (decide (lo ≤ n ∧ n ≤ hi))) ∧ w = w' := by
  by_cases h1 : lo ≤ n
  · by_cases h2 : n ≤ hi
    · have e1 : decide (lo ≤ n ∧ n ≤ hi) = true := by simp [h1, h2]
      rw [e1]
      go_enter Tryz.func24, Tryz.ntmps24
      go_wp2
      go_ret
      exact ⟨ret_bool (by first | (simp; done) | (simp; omega)), rfl⟩
    · have e1 : decide (lo ≤ n ∧ n ≤ hi) = false := by simp; omega
      rw [e1]
      go_enter Tryz.func24, Tryz.ntmps24
      go_wp2
      go_ret
      exact ⟨ret_bool (by first | (simp; done) | (simp; omega)), rfl⟩
  · have e1 : decide (lo ≤ n ∧ n ≤ hi) = false := by simp; omega
    rw [e1]
    go_enter Tryz.func24, Tryz.ntmps24
    go_wp2
    go_ret
    exact ⟨ret_bool (by first | (simp; done) | (simp; omega)), rfl⟩

def goodB (k t v : Int) : Bool := inB k && inB t && inB v

theorem good_c (k t v : Int) (w : World) : Calls Tryz.prog 33 #[.agg #[.int .i64 k, .int .i64 t, .int .i64 v]] w fun e w' => e = .returned (.bool (goodB k t v)) ∧ Ext w w' := by
  unfold goodB
  generalize hk : inB k = bk
  generalize ht : inB t = bt
  generalize hv : inB v = bv
  have ck := fun w => hk ▸ inB_c k w
  have ct := fun w => ht ▸ inB_c t w
  have cv := fun w => hv ▸ inB_c v w
  clear hk ht hv
  have Ck : Hid (∀ w, Calls Tryz.prog 50 #[.int .i64 k] w fun e w' => e = .returned (.bool bk) ∧ w = w') := ck
  have Ct : Hid (∀ w, Calls Tryz.prog 50 #[.int .i64 t] w fun e w' => e = .returned (.bool bt) ∧ w = w') := ct
  have Cv : Hid (∀ w, Calls Tryz.prog 50 #[.int .i64 v] w fun e w' => e = .returned (.bool bv) ∧ w = w') := cv
  clear ck ct cv
  cases bk
  · go_enter Tryz.func33, Tryz.ntmps33
    go_wp2_with (go_at_call 50; refine (Ck.out _).mono ?_; rintro e w' ⟨rfl, rfl⟩)
    go_ret
    exact ⟨rfl, (ExtM.refl _).alloc _⟩
  · cases bt
    · go_enter Tryz.func33, Tryz.ntmps33
      go_wp2_with fail
      refine (Ck.out _).mono ?_; rintro e w' ⟨rfl, rfl⟩
      go_wp2_with fail
      refine (Ct.out _).mono ?_; rintro e w' ⟨rfl, rfl⟩
      go_wp2_with fail
      go_ret
      exact ⟨rfl, (ExtM.refl _).alloc _⟩
    · go_enter Tryz.func33, Tryz.ntmps33
      go_wp2_with fail
      refine (Ck.out _).mono ?_; rintro e w' ⟨rfl, rfl⟩
      go_wp2_with fail
      refine (Ct.out _).mono ?_; rintro e w' ⟨rfl, rfl⟩
      go_wp2_with fail
      refine (Cv.out _).mono ?_; rintro e w' ⟨rfl, rfl⟩
      go_wp2_with fail
      go_ret
      exact ⟨ret_bool (by simp), (ExtM.refl _).alloc _⟩

theorem rgood_c (k t v : Int) (w : World) : Calls Tryz.prog 26 #[.agg #[.int .i64 k, .int .i64 t, .int .i64 v]] w fun e w' => e = .returned (.bool (goodB k t v)) ∧ Ext w w' := by
  unfold goodB
  generalize hk : inB k = bk
  generalize ht : inB t = bt
  generalize hv : inB v = bv
  unfold inB at hk ht hv
  have ck := fun w => hk ▸ rin_c k (-1099511627776) 1099511627776 w
  have ct := fun w => ht ▸ rin_c t (-1099511627776) 1099511627776 w
  have cv := fun w => hv ▸ rin_c v (-1099511627776) 1099511627776 w
  clear hk ht hv
  have Ck : Hid (∀ w, Calls Tryz.prog 24 #[.int .i64 k, .int .i64 (-1099511627776), .int .i64 1099511627776] w fun e w' => e = .returned (.bool bk) ∧ w = w') := ck
  have Ct : Hid (∀ w, Calls Tryz.prog 24 #[.int .i64 t, .int .i64 (-1099511627776), .int .i64 1099511627776] w fun e w' => e = .returned (.bool bt) ∧ w = w') := ct
  have Cv : Hid (∀ w, Calls Tryz.prog 24 #[.int .i64 v, .int .i64 (-1099511627776), .int .i64 1099511627776] w fun e w' => e = .returned (.bool bv) ∧ w = w') := cv
  clear ck ct cv
  cases bk
  · go_enter Tryz.func26, Tryz.ntmps26
    go_wp2_with (go_at_call 24; refine (Ck.out _).mono ?_; rintro e w' ⟨rfl, rfl⟩)
    go_ret
    exact ⟨rfl, (ExtM.refl _).alloc _⟩
  · cases bt
    · go_enter Tryz.func26, Tryz.ntmps26
      go_wp2_with fail
      refine (Ck.out _).mono ?_; rintro e w' ⟨rfl, rfl⟩
      go_wp2_with fail
      refine (Ct.out _).mono ?_; rintro e w' ⟨rfl, rfl⟩
      go_wp2_with fail
      go_ret
      exact ⟨rfl, (ExtM.refl _).alloc _⟩
    · go_enter Tryz.func26, Tryz.ntmps26
      go_wp2_with fail
      refine (Ck.out _).mono ?_; rintro e w' ⟨rfl, rfl⟩
      go_wp2_with fail
      refine (Ct.out _).mono ?_; rintro e w' ⟨rfl, rfl⟩
      go_wp2_with fail
      refine (Cv.out _).mono ?_; rintro e w' ⟨rfl, rfl⟩
      go_wp2_with fail
      go_ret
      exact ⟨ret_bool (by simp), (ExtM.refl _).alloc _⟩

/-! ### Pair, Lone -/
theorem pair_c (k1 t1 v1 k2 t2 v2 : Int) (w : World) :
    Calls Tryz.prog 41 #[.agg #[.int .i64 k1, .int .i64 t1, .int .i64 v1], .agg #[.int .i64 k2, .int .i64 t2, .int .i64 v2]] w fun e w' =>
      e = .returned (.agg #[.int .i64 k1, .int .i64 k1, .int .i64 t1, .int .i64 v1, .int .i64 k2, .int .i64 t2, .int .i64 v2, .bool true, .bool true]) ∧ Ext w w' := by
  go_enter Tryz.func41, Tryz.ntmps41
  go_wp2
  refine bodyPost_ret (v := .agg #[.int .i64 k1, .int .i64 k1, .int .i64 t1, .int .i64 v1, .int .i64 k2, .int .i64 t2, .int .i64 v2, .bool true, .bool true]) (by simp [results, Tryz.results41, go_sem]) rfl ⟨rfl, ?_⟩
  exact (((ExtM.refl _).alloc _).alloc _).alloc _

theorem rpair_c (k1 t1 v1 k2 t2 v2 : Int) (w : World) :
    Calls Tryz.prog 31 #[.agg #[.int .i64 k1, .int .i64 t1, .int .i64 v1], .agg #[.int .i64 k2, .int .i64 t2, .int .i64 v2]] w fun e w' =>
      e = .returned (.agg #[.int .i64 k1, .int .i64 k1, .int .i64 t1, .int .i64 v1, .int .i64 k2, .int .i64 t2, .int .i64 v2, .bool true, .bool true]) ∧ Ext w w' := by
  go_enter Tryz.func31, Tryz.ntmps31
  go_wp2
  refine bodyPost_ret (v := .agg #[.int .i64 k1, .int .i64 k1, .int .i64 t1, .int .i64 v1, .int .i64 k2, .int .i64 t2, .int .i64 v2, .bool true, .bool true]) (by simp [results, Tryz.results31, go_sem]) rfl ⟨rfl, ?_⟩
  exact (((ExtM.refl _).alloc _).alloc _).alloc _

def loneO (s : Int) (r : Row) : Out := if s = 0 then ⟨r.k, r, ⟨0, 0, 0⟩, true, false⟩ else ⟨r.k, ⟨0, 0, 0⟩, r, false, true⟩

theorem lone_c (s k t v : Int) (w : World) :
    Calls Tryz.prog 40 #[.int .i64 s, .agg #[.int .i64 k, .int .i64 t, .int .i64 v]] w fun e w' =>
      e = .returned (if s = 0 then .agg #[.int .i64 k, .int .i64 k, .int .i64 t, .int .i64 v, .int .i64 0, .int .i64 0, .int .i64 0, .bool true, .bool false] else .agg #[.int .i64 k, .int .i64 0, .int .i64 0, .int .i64 0, .int .i64 k, .int .i64 t, .int .i64 v, .bool false, .bool true]) ∧ Ext w w' := by
  by_cases hs : s = 0
  · rw [if_pos hs]
    subst hs
    go_enter Tryz.func40, Tryz.ntmps40
    go_wp2
    refine bodyPost_ret (v := .agg #[.int .i64 k, .int .i64 k, .int .i64 t, .int .i64 v, .int .i64 0, .int .i64 0, .int .i64 0, .bool true, .bool false]) (by simp [results, Tryz.results40, go_sem]) rfl ⟨rfl, ?_⟩
    exact ((ExtM.refl _).alloc _).alloc _
  · rw [if_neg hs]
    have hs' : (s == 0) = false := by simpa using hs
    go_enter Tryz.func40, Tryz.ntmps40
    go_wp2
    refine bodyPost_ret (v := .agg #[.int .i64 k, .int .i64 0, .int .i64 0, .int .i64 0, .int .i64 k, .int .i64 t, .int .i64 v, .bool false, .bool true]) (by simp [results, Tryz.results40, go_sem]) rfl ⟨rfl, ?_⟩
    exact ((ExtM.refl _).alloc _).alloc _

theorem rlone_c (s k t v : Int) (w : World) :
    Calls Tryz.prog 30 #[.int .i64 s, .agg #[.int .i64 k, .int .i64 t, .int .i64 v]] w fun e w' =>
      e = .returned (if s = 0 then .agg #[.int .i64 k, .int .i64 k, .int .i64 t, .int .i64 v, .int .i64 0, .int .i64 0, .int .i64 0, .bool true, .bool false] else .agg #[.int .i64 k, .int .i64 0, .int .i64 0, .int .i64 0, .int .i64 k, .int .i64 t, .int .i64 v, .bool false, .bool true]) ∧ Ext w w' := by
  by_cases hs : s = 0
  · rw [if_pos hs]
    subst hs
    go_enter Tryz.func30, Tryz.ntmps30
    go_wp2
    refine bodyPost_ret (v := .agg #[.int .i64 k, .int .i64 k, .int .i64 t, .int .i64 v, .int .i64 0, .int .i64 0, .int .i64 0, .bool true, .bool false]) (by simp [results, Tryz.results30, go_sem]) rfl ⟨rfl, ?_⟩
    exact ((((ExtM.refl _).alloc _).alloc _).alloc _)
  · rw [if_neg hs]
    have hs' : (s == 0) = false := by simpa using hs
    go_enter Tryz.func30, Tryz.ntmps30
    go_wp2
    refine bodyPost_ret (v := .agg #[.int .i64 k, .int .i64 0, .int .i64 0, .int .i64 0, .int .i64 k, .int .i64 t, .int .i64 v, .bool false, .bool true]) (by simp [results, Tryz.results30, go_sem]) rfl ⟨rfl, ?_⟩
    exact ((((ExtM.refl _).alloc _).alloc _).alloc _)

/-! ### Meets -/
def meetsB (lo hi lk lt rk rt : Int) : Bool := decide (lk = rk) && (decide (lo ≤ wrap64 (rt - lt)) && decide (wrap64 (rt - lt) ≤ hi))

end Go.Proofs.YtggjceolhbdalaaGreatDoor
