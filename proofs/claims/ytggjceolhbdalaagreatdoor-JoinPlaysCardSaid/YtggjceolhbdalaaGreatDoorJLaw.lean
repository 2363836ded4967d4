/- A join, plainly: what a row that comes, and a mark that moves, do to both sides; the program's and the reference's answers are the same. No program in sight. A join, plainly: what the reference's Feed, Put and Move leave; it goes on being the program's. No program in sight. -/
import Derived.Test.YtggjceolhbdalaaGreatDoorHeldC
import Derived.Test.YtggjceolhbdalaaGreatDoorSPc
-- JLaw
namespace Go.Proofs.YtggjceolhbdalaaGreatDoor
open Go.RowKit Go.Plan

def pairO (l r : Row) : Out := ⟨l.k, l, r, true, true⟩
def loneS (s : Nat) (r : Row) : Out := if s = 0 then ⟨r.k, r, ⟨0, 0, 0⟩, true, false⟩ else ⟨r.k, ⟨0, 0, 0⟩, r, false, true⟩
def tellsB (md : Int) (s : Nat) : Bool := if s = 0 then decide (md = 1) || decide (md = 3) else decide (md = 2) || decide (md = 3)
/-- From which time on a row of a side meets those of the other one; until which. -/
def frI (lo hi : Int) (s : Nat) (t : Int) : Int := if s = 0 then t + lo else t - hi
def tilI (lo hi : Int) (s : Nat) (t : Int) : Int := if s = 0 then t + hi else t - lo
/-- What a row that is met changes. -/
def chg1 (md : Int) (s : Nat) (r : Row) (m : Hd) : List (Out × Bool) :=
  (if m.m = 0 ∧ tellsB md (1 - s) = true then [(loneS (1 - s) m.r, true)] else []) ++ [(if s = 0 then pairO r m.r else pairO m.r r, false)]
/-- What a row changes that meets these. -/
def chgs (md : Int) (s : Nat) (r : Row) (ms : List Hd) : List (Out × Bool) :=
  ms.flatMap (chg1 md s r) ++ (if ms = [] ∧ tellsB md s = true then [(loneS s r, false)] else [])

/-- Both sides of a join, how far they are, how many were late. -/
structure JSt where
  a : List Hd
  b : List Hd
  x : Int
  y : Int
  late : Int
/-- The reference's: as they came; and how many came. -/
structure RSt where
  a : List RHd
  b : List RHd
  x : Int
  y : Int
  late : Int
  came : Int
def JSt.of (st : JSt) (s : Nat) : List Hd := if s = 0 then st.a else st.b
def RSt.of (st : RSt) (s : Nat) : List RHd := if s = 0 then st.a else st.b
def JSt.at (st : JSt) (s : Nat) : Int := if s = 0 then st.x else st.y
def RSt.at (st : RSt) (s : Nat) : Int := if s = 0 then st.x else st.y
def JSt.put (st : JSt) (s : Nat) (l : List Hd) : JSt := if s = 0 then { st with a := l } else { st with b := l }
def RSt.put (st : RSt) (s : Nat) (l : List RHd) : RSt := if s = 0 then { st with a := l } else { st with b := l }

/-- The same join. -/
structure RelJ (j : JSt) (r : RSt) : Prop where
  a : ∃ S, RelS j.a S r.a r.came
  b : ∃ S, RelS j.b S r.b r.came
  x : j.x = r.x
  y : j.y = r.y
  late : j.late = r.late
theorem RelJ.of {j : JSt} {r : RSt} (h : RelJ j r) (s : Nat) : ∃ S, RelS (j.of s) S (r.of s) r.came := by
  unfold JSt.of RSt.of
  split
  · exact h.a
  · exact h.b
theorem RelS.later {hs : List Hd} {S L : List RHd} {came came' : Int} (h : RelS hs S L came) (hc : came ≤ came') : RelS hs S L came' :=
  ⟨h.perm, h.srt, h.eq, fun x hx => Int.le_trans (h.lt x hx) hc⟩

/-- What Feed answers, and what it leaves. -/
def feedE (lo hi : Int) (s : Nat) (r : Row) (x y : Int) (own : Nat) : Int :=
  if goodB r.k r.t r.v = false then 1
  else if r.t ≤ (if s = 0 then x else y) then 10
  else if tilI lo hi s r.t > (if s = 0 then y else x) ∧ 300 ≤ own then 12 else 0
def feedC (lo hi md : Int) (s : Nat) (r : Row) (st : JSt) : List (Out × Bool) :=
  if feedE lo hi s r st.x st.y (st.of s).length = 0 then chgs md s r ((st.of (1 - s)).filter (meetP r.k (frI lo hi s r.t) (tilI lo hi s r.t))) else []
def feedJ (lo hi : Int) (s : Nat) (r : Row) (st : JSt) : JSt :=
  let e := feedE lo hi s r st.x st.y (st.of s).length
  if e = 10 then { st with late := wrap64 (st.late + 1) }
  else if e = 0 then
    let p := meetP r.k (frI lo hi s r.t) (tilI lo hi s r.t)
    let st1 := st.put (1 - s) ((st.of (1 - s)).map (bumpIf p))
    if tilI lo hi s r.t > st.at (1 - s) then st1.put s (addH (st1.of s) ⟨r, (((st.of (1 - s)).filter p).length : Nat)⟩) else st1
  else st
end Go.Proofs.YtggjceolhbdalaaGreatDoor

-- JLaw2
namespace Go.Proofs.YtggjceolhbdalaaGreatDoor
open Go.RowKit Go.Plan

/-- A row of the reference that is met. -/
def bumpQ (p : Hd → Bool) (x : RHd) : RHd := if p x.hd then ⟨x.r, wrap64 (x.m + 1), x.c⟩ else x
theorem bumpQ_hd (p : Hd → Bool) (x : RHd) : (bumpQ p x).r = x.r ∧ (bumpQ p x).c = x.c ∧ (bumpQ p x).hd = bumpIf p x.hd := by
  unfold bumpQ bumpIf
  split <;> exact ⟨rfl, rfl, rfl⟩
/-- The rows, when these places have been seen. -/
def mixL (p : Hd → Bool) (L : List RHd) (is : List Nat) : List RHd := L.mapIdx fun i x => if i ∈ is then bumpQ p x else x
theorem mixL_len (p : Hd → Bool) (L : List RHd) (is : List Nat) : (mixL p L is).length = L.length := List.length_mapIdx
theorem mixL_nil (p : Hd → Bool) (L : List RHd) : mixL p L [] = L := by
  apply List.ext_getElem
  · exact mixL_len _ _ _
  · intro i h1 h2; simp [mixL]
theorem mixL_get {p : Hd → Bool} {L : List RHd} {is : List Nat} {q : Nat} (hq : q ∉ is) (hl : q < L.length) : (mixL p L is)[q]? = some L[q]! := by
  rw [getElem!_pos L q hl]
  simp [mixL, hq, hl]
theorem mixL_set {p : Hd → Bool} {L : List RHd} {is : List Nat} {q : Nat} (hl : q < L.length) : (mixL p L is).set q (bumpQ p L[q]!) = mixL p L (is ++ [q]) := by
  rw [getElem!_pos L q hl]
  apply List.ext_getElem
  · simp [mixL]
  · intro i h1 h2
    by_cases hi : q = i
    · subst hi; simp [mixL]
    · have hi' : ¬ i = q := fun e => hi e.symm
      simp [mixL, hi, hi']
theorem mixL_skip {p : Hd → Bool} {L : List RHd} {is : List Nat} {q : Nat} (hl : q < L.length) (h : p L[q]!.hd = false) : mixL p L (is ++ [q]) = mixL p L is := by
  rw [getElem!_pos L q hl] at h
  apply List.ext_getElem
  · simp [mixL]
  · intro i h1 h2
    by_cases hi : i = q
    · subst hi; simp [mixL, bumpQ, h]
    · simp [mixL, hi]
theorem mixL_all {p : Hd → Bool} {L : List RHd} {is : List Nat} (h : ∀ i, i < L.length → i ∈ is) : mixL p L is = L.map (bumpQ p) := by
  apply List.ext_getElem
  · simp [mixL]
  · intro i h1 h2
    have := h i (by simpa [mixL] using h1)
    simp [mixL, this]

def rfeedJ (lo hi : Int) (s : Nat) (r : Row) (st : RSt) : RSt :=
  let e := feedE lo hi s r st.x st.y (st.of s).length
  if e = 10 then { st with late := wrap64 (st.late + 1) }
  else if e = 0 then
    let p := meetP r.k (frI lo hi s r.t) (tilI lo hi s r.t)
    let st1 := st.put (1 - s) ((st.of (1 - s)).map (bumpQ p))
    if tilI lo hi s r.t > st.at (1 - s) then { st1.put s (st1.of s ++ [⟨r, (((st.of (1 - s)).filter (fun x => p x.hd)).length : Nat), st.came + 1⟩]) with came := st.came + 1 } else st1
  else st

theorem RelS.len_filter {hs : List Hd} {S L : List RHd} {came : Int} (h : RelS hs S L came) (p : Hd → Bool) : (hs.filter p).length = (L.filter (fun x => p x.hd)).length := (h.filter p).len
theorem RelJ.len {j : JSt} {r : RSt} (h : RelJ j r) (s : Nat) : (j.of s).length = (r.of s).length := by
  obtain ⟨S, hS⟩ := h.of s; exact hS.len
theorem relJ_feed {j : JSt} {r : RSt} (h : RelJ j r) (lo hi : Int) (s : Nat) (hs : s < 2) (x : Row) : RelJ (feedJ lo hi s x j) (rfeedJ lo hi s x r) := by
  have hl := h.len s
  unfold feedJ rfeedJ
  simp only [hl, h.x, h.y]
  generalize feedE lo hi s x r.x r.y (r.of s).length = e
  by_cases h10 : e = 10
  · rw [if_pos h10, if_pos h10]
    exact ⟨h.a, h.b, by first | rfl | exact h.x, by first | rfl | exact h.y, by show wrap64 _ = wrap64 _; rw [h.late]⟩
  rw [if_neg h10, if_neg h10]
  by_cases h0 : e = 0
  · rw [if_pos h0, if_pos h0]
    have hs' : s = 0 ∨ s = 1 := by omega
    generalize hp : meetP x.k (frI lo hi s x.t) (tilI lo hi s x.t) = p
    obtain ⟨A, hA⟩ := h.a
    obtain ⟨B, hB⟩ := h.b
    have mA := hA.map (bumpIf p) (bumpQ p) (bumpQ_hd p)
    have mB := hB.map (bumpIf p) (bumpQ p) (bumpQ_hd p)
    rcases hs' with rfl | rfl
    · have e1 : j.at (1 - 0) = r.at (1 - 0) := h.y
      rw [e1]
      by_cases hh : tilI lo hi 0 x.t > r.at (1 - 0)
      · rw [if_pos hh, if_pos hh]
        have e2 : ((j.of (1 - 0)).filter p).length = ((r.of (1 - 0)).filter (fun x => p x.hd)).length := hB.len_filter p
        rw [e2]
        exact ⟨hA.add _ _, ⟨_, mB.later (by show r.came ≤ r.came + 1; omega)⟩, by first | rfl | exact h.x, by first | rfl | exact h.y, h.late⟩
      · rw [if_neg hh, if_neg hh]
        exact ⟨⟨_, hA⟩, ⟨_, mB⟩, by first | rfl | exact h.x, by first | rfl | exact h.y, h.late⟩
    · have e1 : j.at (1 - 1) = r.at (1 - 1) := h.x
      rw [e1]
      by_cases hh : tilI lo hi 1 x.t > r.at (1 - 1)
      · rw [if_pos hh, if_pos hh]
        have e2 : ((j.of (1 - 1)).filter p).length = ((r.of (1 - 1)).filter (fun x => p x.hd)).length := hA.len_filter p
        rw [e2]
        exact ⟨⟨_, mA.later (by show r.came ≤ r.came + 1; omega)⟩, hB.add _ _, by first | rfl | exact h.x, by first | rfl | exact h.y, h.late⟩
      · rw [if_neg hh, if_neg hh]
        exact ⟨⟨_, mA⟩, ⟨_, hB⟩, by first | rfl | exact h.x, by first | rfl | exact h.y, h.late⟩
  · rw [if_neg h0, if_neg h0]; exact h

/-! ### Put -/
def putJ (s : Nat) (x : Hd) (st : JSt) : JSt := st.put s (addL (st.of s) x)
def rputJ (s : Nat) (x : Hd) (st : RSt) : RSt := { st.put s (putL (st.of s) x st.came) with came := putN (st.of s) x st.came }
theorem putN_le {L : List RHd} {x : Hd} {came : Int} : came ≤ putN L x came ∧ putN L x came ≤ came + 1 := by
  unfold putN; split <;> omega
theorem relJ_put {j : JSt} {r : RSt} (h : RelJ j r) (s : Nat) (hs : s < 2) (x : Hd) : RelJ (putJ s x j) (rputJ s x r) ∧ addE ((r.of s).map RHd.hd) x = addE (j.of s) x := by
  have hs' : s = 0 ∨ s = 1 := by omega
  refine ⟨?_, by unfold addE; rw [List.length_map, h.len]⟩
  rcases hs' with rfl | rfl
  · exact ⟨relS_addput h.a x, let ⟨S, hS⟩ := h.b; ⟨S, hS.later putN_le.1⟩, h.x, h.y, h.late⟩
  · exact ⟨let ⟨S, hS⟩ := h.a; ⟨S, hS.later putN_le.1⟩, relS_addput h.b x, h.x, h.y, h.late⟩

/-! ### Move -/
def moveJ (lo hi : Int) (s : Nat) (t : Int) (st : JSt) : JSt :=
  if s = 0 then { st with x := t, b := st.b.filter (fun h => decide (tilI lo hi 1 h.r.t > t)) } else { st with y := t, a := st.a.filter (fun h => decide (tilI lo hi 0 h.r.t > t)) }
def rmoveJ (lo hi : Int) (s : Nat) (t : Int) (st : RSt) : RSt :=
  if s = 0 then { st with x := t, b := st.b.filter (fun h => decide (tilI lo hi 1 h.r.t > t)) } else { st with y := t, a := st.a.filter (fun h => decide (tilI lo hi 0 h.r.t > t)) }
theorem relJ_move {j : JSt} {r : RSt} (h : RelJ j r) (lo hi : Int) (s : Nat) (t : Int) : RelJ (moveJ lo hi s t j) (rmoveJ lo hi s t r) := by
  unfold moveJ rmoveJ
  obtain ⟨A, hA⟩ := h.a
  obtain ⟨B, hB⟩ := h.b
  split
  · exact ⟨⟨_, hA⟩, ⟨_, hB.filter (fun h => decide (tilI lo hi 1 h.r.t > t))⟩, rfl, h.y, h.late⟩
  · exact ⟨⟨_, hA.filter (fun h => decide (tilI lo hi 0 h.r.t > t))⟩, ⟨_, hB⟩, h.x, rfl, h.late⟩
theorem move0_drop (lo hi t : Int) (hs : List Hd) : hs.filter (fun h => decide (tilI lo hi 1 h.r.t > t)) = dropL (t + lo) hs := by
  unfold dropL dropB tilI
  congr 1
  funext h
  simp only [if_neg (show ¬ (1 : Nat) = 0 by decide)]
  rw [← decide_not]
  exact decide_eq_decide.2 (by omega)
theorem move1_drop (lo hi t : Int) (hs : List Hd) : hs.filter (fun h => decide (tilI lo hi 0 h.r.t > t)) = dropL (t - hi) hs := by
  unfold dropL dropB tilI
  congr 1
  funext h
  simp only [if_true]
  rw [← decide_not]
  exact decide_eq_decide.2 (by omega)
end Go.Proofs.YtggjceolhbdalaaGreatDoor
