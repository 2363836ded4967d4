/- A join and the reference's beside each other: what each call leaves of both. -/
import Derived.Test.YtggjceolhbdalaaGreatDoorJMisc
import Derived.Test.YtggjceolhbdalaaGreatDoorJRef2
import Derived.Test.YtggjceolhbdalaaGreatDoorJFeed
import Derived.Test.YtggjceolhbdalaaGreatDoorJFeed1
import Derived.Test.YtggjceolhbdalaaGreatDoorRFeed
import Derived.Test.YtggjceolhbdalaaGreatDoorRFeed1
import Derived.Test.YtggjceolhbdalaaGreatDoorJNew
namespace Go.Proofs.YtggjceolhbdalaaGreatDoor
open Go.RowKit Go.Plan

/-! ### plainly -/
/-- What Feed answers for a side, or for none. -/
def stepE (lo hi : Int) (s : Int) (r : Row) (st : JSt) : Int := if s = 0 then feedE lo hi 0 r st.x st.y st.a.length else if s = 1 then feedE lo hi 1 r st.x st.y st.b.length else 1
def stepC (lo hi md : Int) (s : Int) (r : Row) (st : JSt) : List (Out × Bool) := if s = 0 then feedC lo hi md 0 r st else if s = 1 then feedC lo hi md 1 r st else []
def stepJ (lo hi : Int) (s : Int) (r : Row) (st : JSt) : JSt := if s = 0 then feedJ lo hi 0 r st else if s = 1 then feedJ lo hi 1 r st else st
def stepR (lo hi : Int) (s : Int) (r : Row) (st : RSt) : RSt := if s = 0 then rfeedJ lo hi 0 r st else if s = 1 then rfeedJ lo hi 1 r st else st
def putE (s : Int) (x : Hd) (st : JSt) : Int := if s = 0 then addE st.a x else if s = 1 then addE st.b x else 1
def putSJ (s : Int) (x : Hd) (st : JSt) : JSt := if s = 0 then putJ 0 x st else if s = 1 then putJ 1 x st else st
def putSR (s : Int) (x : Hd) (st : RSt) : RSt := if s = 0 then rputJ 0 x st else if s = 1 then rputJ 1 x st else st
def mvJ (lo hi : Int) (s t : Int) (st : JSt) : JSt := if moveI s t st.x st.y = 0 then (if s = 0 then moveJ lo hi 0 t st else moveJ lo hi 1 t st) else st
def mvR (lo hi : Int) (s t : Int) (st : RSt) : RSt := if moveI s t st.x st.y = 0 then (if s = 0 then rmoveJ lo hi 0 t st else rmoveJ lo hi 1 t st) else st

/-- What holds of both between the steps. -/
structure Good2 (st : JSt) (rs : RSt) (n : Nat) : Prop where
  rel : RelJ st rs
  la : rs.a.length ≤ 300
  lb : rs.b.length ≤ 300
  ta : TimesOk rs.a
  tb : TimesOk rs.b
  c0 : 0 ≤ rs.came
  c1 : rs.came ≤ (n : Int)
theorem Good2.more {st : JSt} {rs : RSt} {n : Nat} (h : Good2 st rs n) : Good2 st rs (n + 1) := ⟨h.rel, h.la, h.lb, h.ta, h.tb, h.c0, by have := h.c1; push_cast; omega⟩
theorem Good2.a {st : JSt} {rs : RSt} {n : Nat} (h : Good2 st rs n) : st.a.length = rs.a.length := h.rel.len 0
theorem Good2.b {st : JSt} {rs : RSt} {n : Nat} (h : Good2 st rs n) : st.b.length = rs.b.length := h.rel.len 1
theorem TimesOk.add {L : List RHd} (h : TimesOk L) {x : RHd} (hx : -1099511627776 ≤ x.r.t ∧ x.r.t ≤ 1099511627776) : TimesOk (L ++ [x]) := fun y hy => by
  rcases List.mem_append.1 hy with hy | hy
  · exact h y hy
  · rw [List.mem_singleton.1 hy]; exact hx
theorem TimesOk.map {L : List RHd} (h : TimesOk L) (p : Hd → Bool) : TimesOk (L.map (bumpQ p)) := fun y hy => by
  obtain ⟨x, hx, rfl⟩ := List.mem_map.1 hy
  rw [(bumpQ_hd p x).1]; exact h x hx
theorem TimesOk.filter {L : List RHd} (h : TimesOk L) (p : RHd → Bool) : TimesOk (L.filter p) := fun y hy => h y ((List.mem_filter.1 hy).1)
theorem feedE_ok {lo hi : Int} {s : Nat} {r : Row} {x y : Int} {own : Nat} (h : feedE lo hi s r x y own = 0) : goodB r.k r.t r.v = true ∧ (tilI lo hi s r.t > (if s = 0 then y else x) → own < 300) := by
  unfold feedE at h
  by_cases h1 : goodB r.k r.t r.v = false
  · rw [if_pos h1] at h; cases h
  rw [if_neg h1] at h
  by_cases h2 : r.t ≤ (if s = 0 then x else y)
  · rw [if_pos h2] at h; cases h
  rw [if_neg h2] at h
  by_cases h3 : tilI lo hi s r.t > (if s = 0 then y else x) ∧ 300 ≤ own
  · rw [if_pos h3] at h; cases h
  · exact ⟨by simpa using h1, fun h4 => by omega⟩
theorem rfeedJ_ok {lo hi : Int} {s : Nat} (hs : s < 2) {r : Row} {rs : RSt} {n : Nat} (la : rs.a.length ≤ 300) (lb : rs.b.length ≤ 300) (ta : TimesOk rs.a) (tb : TimesOk rs.b) (c0 : 0 ≤ rs.came) (c1 : rs.came ≤ (n : Int)) :
    (rfeedJ lo hi s r rs).a.length ≤ 300 ∧ (rfeedJ lo hi s r rs).b.length ≤ 300 ∧ TimesOk (rfeedJ lo hi s r rs).a ∧ TimesOk (rfeedJ lo hi s r rs).b ∧ 0 ≤ (rfeedJ lo hi s r rs).came ∧ (rfeedJ lo hi s r rs).came ≤ ((n + 1 : Nat) : Int) := by
  have hs' : s = 0 ∨ s = 1 := by omega
  by_cases h10 : feedE lo hi s r rs.x rs.y (rs.of s).length = 10
  · have e : rfeedJ lo hi s r rs = { rs with late := wrap64 (rs.late + 1) } := by unfold rfeedJ; exact if_pos h10
    rw [e]; exact ⟨la, lb, ta, tb, c0, by push_cast; omega⟩
  by_cases h0 : feedE lo hi s r rs.x rs.y (rs.of s).length = 0
  · obtain ⟨hg, hf⟩ := feedE_ok h0
    have ht := good_time hg
    rcases hs' with rfl | rfl
    · by_cases hb : tilI lo hi 0 r.t > rs.y
      · rw [rfeedJ0_yes h0 hb]
        have := hf hb
        have e : (rs.of 0).length = rs.a.length := rfl
        exact ⟨by simp; omega, by simp; omega, ta.add ht, tb.map _, by show 0 ≤ rs.came + 1; omega, by show rs.came + 1 ≤ _; push_cast; omega⟩
      · rw [rfeedJ0_no h0 hb]
        exact ⟨la, by simp; omega, ta, tb.map _, c0, by show rs.came ≤ _; push_cast; omega⟩
    · by_cases hb : tilI lo hi 1 r.t > rs.x
      · rw [rfeedJ1_yes h0 hb]
        have := hf hb
        have e : (rs.of 1).length = rs.b.length := rfl
        exact ⟨by simp; omega, by simp; omega, ta.map _, tb.add ht, by show 0 ≤ rs.came + 1; omega, by show rs.came + 1 ≤ _; push_cast; omega⟩
      · rw [rfeedJ1_no h0 hb]
        exact ⟨by simp; omega, lb, ta.map _, tb, c0, by show rs.came ≤ _; push_cast; omega⟩
  · have e : rfeedJ lo hi s r rs = rs := by unfold rfeedJ; exact (if_neg h10).trans (if_neg h0)
    rw [e]; exact ⟨la, lb, ta, tb, c0, by push_cast; omega⟩
theorem Good2.feed {st : JSt} {rs : RSt} {n : Nat} (h : Good2 st rs n) (lo hi s : Int) (r : Row) : Good2 (stepJ lo hi s r st) (stepR lo hi s r rs) (n + 1) := by
  unfold stepJ stepR
  by_cases h0 : s = 0
  · rw [if_pos h0, if_pos h0]
    obtain ⟨a, b, c, d, e, f⟩ := rfeedJ_ok (lo := lo) (hi := hi) (s := 0) (r := r) (by omega) h.la h.lb h.ta h.tb h.c0 h.c1
    exact ⟨relJ_feed h.rel lo hi 0 (by omega) r, a, b, c, d, e, f⟩
  rw [if_neg h0, if_neg h0]
  by_cases h1 : s = 1
  · rw [if_pos h1, if_pos h1]
    obtain ⟨a, b, c, d, e, f⟩ := rfeedJ_ok (lo := lo) (hi := hi) (s := 1) (r := r) (by omega) h.la h.lb h.ta h.tb h.c0 h.c1
    exact ⟨relJ_feed h.rel lo hi 1 (by omega) r, a, b, c, d, e, f⟩
  rw [if_neg h1, if_neg h1]; exact h.more
theorem putL_ok {L : List RHd} {x : Hd} {came : Int} (h : L.length ≤ 300) (ht : TimesOk L) : (putL L x came).length ≤ 300 ∧ TimesOk (putL L x came) := by
  unfold putL
  by_cases he : addE (L.map RHd.hd) x = 0
  · rw [if_pos he, List.length_append, List.length_singleton]
    unfold addE at he
    rw [List.length_map] at he
    by_cases h1 : (goodB x.r.k x.r.t x.r.v && decide (0 ≤ x.m)) = false
    · rw [if_pos h1] at he; omega
    · rw [if_neg h1] at he
      have hg : goodB x.r.k x.r.t x.r.v = true := by
        cases hh : goodB x.r.k x.r.t x.r.v
        · exact absurd (by rw [hh]; rfl) h1
        · rfl
      by_cases h2 : 300 ≤ L.length
      · rw [if_pos h2] at he; omega
      · exact ⟨by omega, ht.add (good_time hg)⟩
  · rw [if_neg he]; exact ⟨h, ht⟩
theorem Good2.put {st : JSt} {rs : RSt} {n : Nat} (h : Good2 st rs n) (s : Int) (x : Hd) : Good2 (putSJ s x st) (putSR s x rs) (n + 1) := by
  unfold putSJ putSR
  have hc0 := h.c0
  have hc1 := h.c1
  by_cases h0 : s = 0
  · rw [if_pos h0, if_pos h0]
    have := putN_le (L := rs.a) (x := x) (came := rs.came)
    exact ⟨(relJ_put h.rel 0 (by omega) x).1, (putL_ok h.la h.ta).1, h.lb, (putL_ok h.la h.ta).2, h.tb, by show 0 ≤ putN _ _ _; exact Int.le_trans hc0 this.1, by show putN rs.a x rs.came ≤ _; push_cast; omega⟩
  rw [if_neg h0, if_neg h0]
  by_cases h1 : s = 1
  · rw [if_pos h1, if_pos h1]
    have := putN_le (L := rs.b) (x := x) (came := rs.came)
    exact ⟨(relJ_put h.rel 1 (by omega) x).1, h.la, (putL_ok h.lb h.tb).1, h.ta, (putL_ok h.lb h.tb).2, by show 0 ≤ putN _ _ _; exact Int.le_trans hc0 this.1, by show putN rs.b x rs.came ≤ _; push_cast; omega⟩
  rw [if_neg h1, if_neg h1]; exact h.more
theorem Good2.move {st : JSt} {rs : RSt} {n : Nat} (h : Good2 st rs n) (lo hi s t : Int) : Good2 (mvJ lo hi s t st) (mvR lo hi s t rs) (n + 1) := by
  have hm : ∀ s' : Nat, (rmoveJ lo hi s' t rs).a.length ≤ 300 ∧ (rmoveJ lo hi s' t rs).b.length ≤ 300 ∧ TimesOk (rmoveJ lo hi s' t rs).a ∧ TimesOk (rmoveJ lo hi s' t rs).b ∧ (rmoveJ lo hi s' t rs).came = rs.came := fun s' => by
    unfold rmoveJ
    split
    · exact ⟨h.la, Nat.le_trans (List.length_filter_le _ _) h.lb, h.ta, h.tb.filter _, rfl⟩
    · exact ⟨Nat.le_trans (List.length_filter_le _ _) h.la, h.lb, h.ta.filter _, h.tb, rfl⟩
  have hc0 := h.c0
  have hc1 := h.c1
  have go : ∀ s' : Nat, Good2 (moveJ lo hi s' t st) (rmoveJ lo hi s' t rs) (n + 1) := fun s' => by
    obtain ⟨a, b, c, d, e⟩ := hm s'
    exact ⟨relJ_move h.rel lo hi s' t, a, b, c, d, by rw [e]; exact hc0, by rw [e]; push_cast; omega⟩
  unfold mvJ mvR
  rw [h.rel.x, h.rel.y]
  split
  · split
    · exact go 0
    · exact go 1
  · exact h.more
theorem Good2.chg {st : JSt} {rs : RSt} {n : Nat} (h : Good2 st rs n) (s : Nat) (R : List RHd) (h1 : R.Perm (rs.of s)) (h2 : R.Pairwise (fun a b => ¬ ltR b a)) : st.of s = R.map RHd.hd := by
  obtain ⟨S, hS⟩ := h.rel.of s
  rw [hS.eq, weak_unique hS.srt (h1.trans hS.perm.symm) h2]

/-! ### in memory -/
structure JX (w u : World) (P M J : Nat) (lo hi md : Int) (Av Bs Cs : Nat → Prop) (st : JSt) (rs : RSt) : Prop where
  ext : Ext w u
  j : JAt u P M Bs lo hi md st
  r : RAt u J Cs lo hi md rs
  nB : ∀ k, Bs k → w.heap.size ≤ k ∧ ¬ Cs k ∧ ¬ Av k
  nC : ∀ k, Cs k → w.heap.size ≤ k ∧ ¬ Av k
  av : ∀ b, Av b → b < u.heap.size
section
variable {w u u' : World} {P M J : Nat} {lo hi md : Int} {Av Bs Cs : Nat → Prop} {st : JSt} {rs : RSt}
theorem JX.of (h : JX w u P M J lo hi md Av Bs Cs st rs) (hx : Ext u u') : JX w u' P M J lo hi md Av Bs Cs st rs :=
  ⟨ExtM.trans _ _ _ h.ext hx, h.j.ext hx, h.r.ext hx, h.nB, h.nC, fun b hb => Nat.lt_of_lt_of_le (h.av b hb) hx.size⟩
theorem JX.narrow {Av' : Nat → Prop} (h : JX w u P M J lo hi md Av Bs Cs st rs) (hA : ∀ b, Av' b → Av b) : JX w u P M J lo hi md Av' Bs Cs st rs :=
  ⟨h.ext, h.j, h.r, fun k hk => ⟨(h.nB k hk).1, (h.nB k hk).2.1, fun e => (h.nB k hk).2.2 (hA k e)⟩, fun k hk => ⟨(h.nC k hk).1, fun e => (h.nC k hk).2 (hA k e)⟩, fun b hb => h.av b (hA b hb)⟩
theorem JX.wide {Av' : Nat → Prop} (h : JX w u P M J lo hi md Av Bs Cs st rs) (hx : Ext u u') (hA : ∀ b, Av' b → Av b ∨ (u.heap.size ≤ b ∧ b < u'.heap.size)) : JX w u' P M J lo hi md Av' Bs Cs st rs := by
  have h1 := h.of hx
  refine ⟨h1.ext, h1.j, h1.r, fun k hk => ⟨(h.nB k hk).1, (h.nB k hk).2.1, fun e => ?_⟩, fun k hk => ⟨(h.nC k hk).1, fun e => ?_⟩, fun b hb => ?_⟩
  · rcases hA k e with e | e
    · exact (h.nB k hk).2.2 e
    · have := h.j.lt k hk; omega
  · rcases hA k e with e | e
    · exact (h.nC k hk).2 e
    · have := h.r.lt k hk; omega
  · rcases hA b hb with e | e
    · exact h1.av b e
    · exact e.2
theorem JX.jup {st' : JSt} (h : JX w u P M J lo hi md Av Bs Cs st rs) (hu : JUp u u' P M Bs lo hi md st') : ExtM (fun k => ¬ Av k) u u' ∧ ∃ Bs', JX w u' P M J lo hi md Av Bs' Cs st' rs := by
  obtain ⟨hx, Bs', hj, hb⟩ := hu
  have hsz := h.ext.size
  refine ⟨hx.mono fun k _ hk => (h.nB k hk).2.2, Bs', h.ext.fresh hx (fun k hk e => by have := (h.nB k e).1; omega), hj, h.r.keep hx (fun k hk e => (h.nB k e).2.1 hk), fun k hk => ?_, h.nC, fun b hb => Nat.lt_of_lt_of_le (h.av b hb) hx.size⟩
  rcases hb k hk with e | e
  · exact h.nB k e
  · exact ⟨by omega, fun q => by have := h.r.lt k q; omega, fun q => by have := h.av k q; omega⟩
theorem JX.rup {rs' : RSt} (h : JX w u P M J lo hi md Av Bs Cs st rs) (hu : RUp u u' J Cs lo hi md rs') : ExtM (fun k => ¬ Av k) u u' ∧ ∃ Cs', JX w u' P M J lo hi md Av Bs Cs' st rs' := by
  obtain ⟨hx, Cs', hr, hc⟩ := hu
  have hsz := h.ext.size
  refine ⟨hx.mono fun k _ hk => (h.nC k hk).2, Cs', h.ext.fresh hx (fun k hk e => by have := (h.nC k e).1; omega), h.j.keep hx (fun k hk e => (h.nB k hk).2.1 e), hr, fun k hk => ⟨(h.nB k hk).1, fun e => ?_, (h.nB k hk).2.2⟩, fun k hk => ?_, fun b hb => Nat.lt_of_lt_of_le (h.av b hb) hx.size⟩
  · rcases hc k e with e | e
    · exact (h.nB k hk).2.1 e
    · have := h.j.lt k hk; omega
  · rcases hc k hk with e | e
    · exact h.nC k e
    · exact ⟨by omega, fun q => by have := h.av k q; omega⟩
theorem JX.same (h : JX w u P M J lo hi md Av Bs Cs st rs) (hx : Ext u u') : ExtM (fun k => ¬ Av k) u u' ∧ ∃ Bs', JX w u' P M J lo hi md Av Bs' Cs st rs :=
  ⟨hx.mono (fun _ _ h => h.elim), Bs, h.of hx⟩
theorem JX.same' (h : JX w u P M J lo hi md Av Bs Cs st rs) (hx : Ext u u') : ExtM (fun k => ¬ Av k) u u' ∧ ∃ Cs', JX w u' P M J lo hi md Av Bs Cs' st rs :=
  ⟨hx.mono (fun _ _ h => h.elim), Cs, h.of hx⟩

variable {n : Nat}
theorem jx_rfeed (h : JX w u P M J lo hi md Av Bs Cs st rs) (hp : PlanOk lo hi) (hg : Good2 st rs n) (hn : n < 1000) (s rk rt rv : Int) :
    Calls Tryz.prog 9 #[.pointer (some ⟨J, 0, none⟩), .int .i64 s, .agg #[.int .i64 rk, .int .i64 rt, .int .i64 rv]] u fun e u' => ∃ vo, e = .returned (.tuple #[vo, .int .i64 (stepE lo hi s ⟨rk, rt, rv⟩ st)]) ∧ CRow u' u.heap.size vo (stepC lo hi md s ⟨rk, rt, rv⟩ st) ∧
      ExtM (fun k => ¬ Av k) u u' ∧ ∃ Cs', JX w u' P M J lo hi md Av Bs Cs' st (stepR lo hi s ⟨rk, rt, rv⟩ rs) := by
  have hc0 := hg.c0
  have hc1 := hg.c1
  by_cases h0 : s = 0
  · subst h0
    simp only [stepE, stepC, stepR, if_true]
    obtain ⟨r0, r1, hr, rfl⟩ := h.r
    refine (rfeed0_c u J r0 r1 lo hi md rs rk rt rv hr hp hg.la hg.lb ⟨hc0, by omega⟩).mono ?_
    rintro e u' ⟨vo, R, rfl, hrow, hR, hu⟩
    rw [show feedE lo hi 0 ⟨rk, rt, rv⟩ rs.x rs.y (rs.of 0).length = feedE lo hi 0 ⟨rk, rt, rv⟩ st.x st.y st.a.length by rw [hg.rel.x, hg.rel.y, hg.a]; rfl] at *
    refine ⟨vo, rfl, ?_, h.rup hu⟩
    show CRow _ _ _ (if feedE lo hi 0 ⟨rk, rt, rv⟩ st.x st.y st.a.length = 0 then chgs md 0 ⟨rk, rt, rv⟩ ((st.of 1).filter _) else [])
    by_cases hE : feedE lo hi 0 ⟨rk, rt, rv⟩ st.x st.y st.a.length = 0
    · rw [if_pos hE] at hrow ⊢
      rw [hg.chg 1 R (hR hE).1 (hR hE).2]; exact hrow
    · rw [if_neg hE] at hrow ⊢; exact hrow
  by_cases h1 : s = 1
  · subst h1
    simp only [stepE, stepC, stepR, if_neg h0, if_true]
    obtain ⟨r0, r1, hr, rfl⟩ := h.r
    refine (rfeed1_c u J r0 r1 lo hi md rs rk rt rv hr hp hg.la hg.lb ⟨hc0, by omega⟩).mono ?_
    rintro e u' ⟨vo, R, rfl, hrow, hR, hu⟩
    rw [show feedE lo hi 1 ⟨rk, rt, rv⟩ rs.x rs.y (rs.of 1).length = feedE lo hi 1 ⟨rk, rt, rv⟩ st.x st.y st.b.length by rw [hg.rel.x, hg.rel.y, hg.b]; rfl] at *
    refine ⟨vo, rfl, ?_, h.rup hu⟩
    show CRow _ _ _ (if feedE lo hi 1 ⟨rk, rt, rv⟩ st.x st.y st.b.length = 0 then chgs md 1 ⟨rk, rt, rv⟩ ((st.of 0).filter _) else [])
    by_cases hE : feedE lo hi 1 ⟨rk, rt, rv⟩ st.x st.y st.b.length = 0
    · rw [if_pos hE] at hrow ⊢
      rw [hg.chg 0 R (hR hE).1 (hR hE).2]; exact hrow
    · rw [if_neg hE] at hrow ⊢; exact hrow
  · simp only [stepE, stepC, stepR, if_neg h0, if_neg h1]
    refine (rfeedN_c J s rk rt rv u ⟨h0, h1⟩).mono ?_
    rintro e u' ⟨rfl, hx⟩
    exact ⟨_, rfl, nilC _ _, h.same' hx⟩
theorem jx_feed (h : JX w u P M J lo hi md Av Bs Cs st rs) (hp : PlanOk lo hi) (la : st.a.length ≤ 300) (lb : st.b.length ≤ 300) (s rk rt rv : Int) :
    Calls Tryz.prog 10 #[.pointer (some ⟨P, 0, none⟩), .int .i64 s, .agg #[.int .i64 rk, .int .i64 rt, .int .i64 rv]] u fun e u' => ∃ vo, e = .returned (.tuple #[vo, errV (stepE lo hi s ⟨rk, rt, rv⟩ st)]) ∧ CRow u' u.heap.size vo (stepC lo hi md s ⟨rk, rt, rv⟩ st) ∧
      ExtM Bs u u' ∧ ExtM (fun k => ¬ Av k) u u' ∧ ∃ Bs', JX w u' P M J lo hi md Av Bs' Cs (stepJ lo hi s ⟨rk, rt, rv⟩ st) rs := by
  by_cases h0 : s = 0
  · subst h0
    simp only [stepE, stepC, stepJ, if_true]
    obtain ⟨v0, v1, hj, rfl⟩ := h.j
    refine (feed0_c u P M v0 v1 lo hi md st rk rt rv hj hp la lb).mono ?_
    rintro e u' ⟨vo, rfl, hrow, hu⟩
    exact ⟨vo, rfl, hrow, hu.1, h.jup hu⟩
  by_cases h1 : s = 1
  · subst h1
    simp only [stepE, stepC, stepJ, if_neg h0, if_true]
    obtain ⟨v0, v1, hj, rfl⟩ := h.j
    refine (feed1_c u P M v0 v1 lo hi md st rk rt rv hj hp la lb).mono ?_
    rintro e u' ⟨vo, rfl, hrow, hu⟩
    exact ⟨vo, rfl, hrow, hu.1, h.jup hu⟩
  · simp only [stepE, stepC, stepJ, if_neg h0, if_neg h1]
    refine (jfeedBad_c P s rk rt rv u ⟨h0, h1⟩).mono ?_
    rintro e u' ⟨rfl, hx⟩
    exact ⟨_, rfl, nilC _ _, hx.mono (fun _ _ h => h.elim), h.same hx⟩
theorem jx_put (h : JX w u P M J lo hi md Av Bs Cs st rs) (s k t q m : Int) :
    Calls Tryz.prog 14 #[.pointer (some ⟨P, 0, none⟩), .int .i64 s, .agg #[.int .i64 k, .int .i64 t, .int .i64 q], .int .i64 m] u fun e u' => e = .returned (errV (putE s ⟨⟨k, t, q⟩, m⟩ st)) ∧
      ExtM (fun k => ¬ Av k) u u' ∧ ∃ Bs', JX w u' P M J lo hi md Av Bs' Cs (putSJ s ⟨⟨k, t, q⟩, m⟩ st) rs := by
  by_cases h0 : s = 0
  · subst h0
    simp only [putE, putSJ, if_true]
    obtain ⟨v0, v1, hj, rfl⟩ := h.j
    exact (jput0_c hj k t q m).mono fun e u' hh => ⟨hh.1, h.jup hh.2⟩
  by_cases h1 : s = 1
  · subst h1
    simp only [putE, putSJ, if_neg h0, if_true]
    obtain ⟨v0, v1, hj, rfl⟩ := h.j
    exact (jput1_c hj k t q m).mono fun e u' hh => ⟨hh.1, h.jup hh.2⟩
  · simp only [putE, putSJ, if_neg h0, if_neg h1]
    exact (jputBad_c P s k t q m u ⟨h0, h1⟩).mono fun e u' hh => ⟨hh.1, h.same hh.2⟩
theorem jx_rput (h : JX w u P M J lo hi md Av Bs Cs st rs) (E : Int) (s k t q m : Int) (hc : 0 ≤ rs.came ∧ rs.came < 1000000) (hE : (if s = 0 then addE (rs.a.map RHd.hd) ⟨⟨k, t, q⟩, m⟩ else if s = 1 then addE (rs.b.map RHd.hd) ⟨⟨k, t, q⟩, m⟩ else 1) = E) :
    Calls Tryz.prog 15 #[.pointer (some ⟨J, 0, none⟩), .int .i64 s, .agg #[.int .i64 k, .int .i64 t, .int .i64 q], .int .i64 m] u fun e u' => e = .returned (.int .i64 E) ∧
      ExtM (fun k => ¬ Av k) u u' ∧ ∃ Cs', JX w u' P M J lo hi md Av Bs Cs' st (putSR s ⟨⟨k, t, q⟩, m⟩ rs) := by
  by_cases h0 : s = 0
  · subst h0
    simp only [putSR, if_true] at hE ⊢
    subst hE
    obtain ⟨r0, r1, hr, rfl⟩ := h.r
    exact (jrput0_c hr k t q m hc).mono fun e u' hh => ⟨hh.1, h.rup hh.2⟩
  by_cases h1 : s = 1
  · subst h1
    simp only [putSR, if_neg h0, if_true] at hE ⊢
    subst hE
    obtain ⟨r0, r1, hr, rfl⟩ := h.r
    exact (jrput1_c hr k t q m hc).mono fun e u' hh => ⟨hh.1, h.rup hh.2⟩
  · simp only [putSR, if_neg h0, if_neg h1] at hE ⊢
    subst hE
    exact (rputN_c J s k t q m u ⟨h0, h1⟩).mono fun e u' hh => ⟨hh.1, h.same' hh.2⟩
theorem jx_move (h : JX w u P M J lo hi md Av Bs Cs st rs) (hp : PlanOk lo hi) (la : st.a.length ≤ 300) (lb : st.b.length ≤ 300) (s t : Int) :
    Calls Tryz.prog 12 #[.pointer (some ⟨P, 0, none⟩), .int .i64 s, .int .i64 t] u fun e u' => e = .returned (errV (moveI s t st.x st.y)) ∧
      ExtM (fun k => ¬ Av k) u u' ∧ ∃ Bs', JX w u' P M J lo hi md Av Bs' Cs (mvJ lo hi s t st) rs := by
  unfold mvJ
  by_cases h0 : s = 0
  · subst h0
    simp only [if_true]
    obtain ⟨v0, v1, hj, rfl⟩ := h.j
    exact (jmove0_c hj hp t (by omega)).mono fun e u' hh => ⟨hh.1, h.jup hh.2⟩
  by_cases h1 : s = 1
  · subst h1
    simp only [if_neg h0]
    obtain ⟨v0, v1, hj, rfl⟩ := h.j
    exact (jmove1_c hj hp t (by omega)).mono fun e u' hh => ⟨hh.1, h.jup hh.2⟩
  · have hm : moveI s t st.x st.y = 1 := by unfold moveI; rw [if_pos ⟨h0, h1⟩]
    rw [if_neg (by rw [hm]; decide)]
    obtain ⟨v0, v1, hj, rfl⟩ := h.j
    exact (jmoveBad_c hj s t _ rfl (by rw [hm]; decide)).mono fun e u' hh => ⟨hh.1, h.jup hh.2⟩
theorem jx_rmove (h : JX w u P M J lo hi md Av Bs Cs st rs) (E : Int) (hp : PlanOk lo hi) (la : rs.a.length ≤ 300) (lb : rs.b.length ≤ 300) (ta : TimesOk rs.a) (tb : TimesOk rs.b) (s t : Int) (hE : moveI s t rs.x rs.y = E) :
    Calls Tryz.prog 13 #[.pointer (some ⟨J, 0, none⟩), .int .i64 s, .int .i64 t] u fun e u' => e = .returned (.int .i64 E) ∧
      ExtM (fun k => ¬ Av k) u u' ∧ ∃ Cs', JX w u' P M J lo hi md Av Bs Cs' st (mvR lo hi s t rs) := by
  subst hE
  unfold mvR
  by_cases h0 : s = 0
  · subst h0
    simp only [if_true]
    obtain ⟨r0, r1, hr, rfl⟩ := h.r
    exact (rmove0_c u J r0 r1 lo hi md rs hr hp t (by omega) tb).mono fun e u' hh => ⟨hh.1, h.rup hh.2⟩
  by_cases h1 : s = 1
  · subst h1
    simp only [if_neg h0]
    obtain ⟨r0, r1, hr, rfl⟩ := h.r
    exact (rmove1_c u J r0 r1 lo hi md rs hr hp t (by omega) ta).mono fun e u' hh => ⟨hh.1, h.rup hh.2⟩
  · have hm : moveI s t rs.x rs.y = 1 := by unfold moveI; rw [if_pos ⟨h0, h1⟩]
    rw [hm, if_neg (by decide)]
    exact (rmoveArg_c J s t u ⟨h0, h1⟩).mono fun e u' hh => ⟨hh.1, h.same' hh.2⟩
theorem jx_held (h : JX w u P M J lo hi md Av Bs Cs st rs) (s : Nat) (hs : s < 2) :
    Calls Tryz.prog 16 #[.pointer (some ⟨P, 0, none⟩), .int .i64 (s : Nat)] u fun e u' => e = .returned (.int .i64 ((st.of s).length : Nat)) ∧ Ext u u' := by
  obtain ⟨v0, v1, hj, rfl⟩ := h.j
  exact (jheld_c s hs hj).mono fun e u' hh => ⟨hh.1, hh.2 ▸ ExtM.refl _⟩
theorem jx_mark (h : JX w u P M J lo hi md Av Bs Cs st rs) (s : Int) (x : Int) (hx : ofI s st.x st.y = x) :
    Calls Tryz.prog 17 #[.pointer (some ⟨P, 0, none⟩), .int .i64 s] u fun e u' => e = .returned (.int .i64 x) ∧ Ext u u' := by
  subst hx
  obtain ⟨v0, v1, hj, rfl⟩ := h.j
  exact (jmark_c s hj).mono fun e u' hh => ⟨hh.1, hh.2 ▸ ExtM.refl _⟩
theorem jx_late (h : JX w u P M J lo hi md Av Bs Cs st rs) :
    Calls Tryz.prog 21 #[.pointer (some ⟨P, 0, none⟩)] u fun e u' => e = .returned (.int .i64 st.late) ∧ Ext u u' := by
  obtain ⟨v0, v1, hj, rfl⟩ := h.j
  exact (jlate_c hj).mono fun e u' hh => ⟨hh.1, hh.2 ▸ ExtM.refl _⟩
theorem jx_rows (h : JX w u P M J lo hi md Av Bs Cs st rs) (s : Nat) (hs : s < 2) (hl : (st.of s).length < 1000000) :
    Calls Tryz.prog 19 #[.pointer (some ⟨P, 0, none⟩), .int .i64 (s : Nat)] u fun e u' => ∃ vo, e = .returned vo ∧ MRow u' u.heap.size vo (st.of s) ∧ Ext u u' := by
  obtain ⟨v0, v1, hj, rfl⟩ := h.j
  exact jrows_c s hs hj hl
theorem jx_rall (h : JX w u P M J lo hi md Av Bs Cs st rs) (s : Nat) (hs : s < 2) (hl : (rs.of s).length < 100000) :
    Calls Tryz.prog 20 #[.pointer (some ⟨J, 0, none⟩), .int .i64 (s : Nat)] u (RAllPost (rs.of s) u) := by
  obtain ⟨r0, r1, hr, rfl⟩ := h.r
  have hs' : s = 0 ∨ s = 1 := by omega
  rcases hs' with rfl | rfl
  · exact rall_c J 0 r0 rs.a u (by omega) hr.j0.c3 hr.j0.row hl
  · exact rall_c J 1 r1 rs.b u (by omega) hr.j1.c3 hr.j1.row hl
end
end Go.Proofs.YtggjceolhbdalaaGreatDoor
