/- A tale in memory: what a step's parts leave of it. -/
import Derived.Test.YtmcgnnmffeojpaaGreatDoorPk28
/- A tale, plainly: what its steps do to it, and what stays true of it. -/
namespace Go.Proofs.YtmcgnnmffeojpaaGreatDoor
open Go.RowKit Go.Plan

/-- A tale: its join, the rows that it took (the last one ahead), its view, how many were fed, how far it let its marks be. -/
structure TSt where
  st : JSt
  L : List Row
  R : List Row
  V : List Out
  f0 : Int
  f1 : Int
  a0 : Int
  a1 : Int
def TSt.new : TSt := ⟨⟨[], [], -1099511627777, -1099511627777, 0⟩, [], [], [], 0, 0, -300, -300⟩
/-- The count of the rows that came: see fedI. -/
def feedT (lo hi md : Int) (sd : Nat) (r : Row) (s : TSt) : TSt :=
  let e := feedE lo hi sd r s.st.x s.st.y (s.st.of sd).length
  { st := feedJ lo hi sd r s.st, L := if e = 0 ∧ sd = 0 then r :: s.L else s.L, R := if e = 0 ∧ sd = 1 then r :: s.R else s.R, V := applyV s.V (feedC lo hi md sd r s.st),
    f0 := if sd = 0 then fedI e s.f0 else s.f0, f1 := if sd = 1 then fedI e s.f1 else s.f1, a0 := s.a0, a1 := s.a1 }
def moveT (lo hi : Int) (sd : Nat) (d : Int) (s : TSt) : TSt :=
  if sd = 0 then { s with st := moveJ lo hi 0 (s.a0 + d) s.st, a0 := s.a0 + d } else { s with st := moveJ lo hi 1 (s.a1 + d) s.st, a1 := s.a1 + d }
def smallR (r : Row) : Prop := (0 ≤ r.k ∧ r.k ≤ 3) ∧ (-100 ≤ r.t ∧ r.t ≤ 99) ∧ 0 ≤ r.v ∧ r.v ≤ 49
/-- The row that a step picks. -/
def stepRow (key time value : Int) : Row := ⟨(pickN key 4 : Nat), (pickN time 200 : Nat) - 100, (pickN value 50 : Nat)⟩
theorem stepRow_small (key time value : Int) : smallR (stepRow key time value) := by
  have h1 := pickN_lt key 4 (by decide)
  have h2 := pickN_lt time 200 (by decide)
  have h3 := pickN_lt value 50 (by decide)
  unfold smallR stepRow
  simp only
  omega
theorem smallR.good {r : Row} (h : smallR r) : goodB r.k r.t r.v = true := by
  unfold smallR at h
  unfold goodB inB
  simp only [Bool.and_eq_true, decide_eq_true_eq]
  omega
theorem feedE_two {lo hi : Int} {s : Nat} {r : Row} (h : smallR r) (x y : Int) {n : Nat} (hn : n < 300) : feedE lo hi s r x y n = 0 ∨ feedE lo hi s r x y n = 10 := by
  unfold feedE
  rw [if_neg (by rw [h.good]; decide)]
  by_cases h1 : r.t ≤ (if s = 0 then x else y)
  · rw [if_pos h1]; exact .inr rfl
  · rw [if_neg h1, if_neg (fun e => by have := e.2; omega)]; exact .inl rfl

theorem feedT0_ok {lo hi md : Int} {r : Row} {s : TSt} (hE : feedE lo hi 0 r s.st.x s.st.y (s.st.of 0).length = 0) : feedT lo hi md 0 r s = { s with st := feedJ lo hi 0 r s.st, V := applyV s.V (feedC lo hi md 0 r s.st), f0 := fedI 0 s.f0, L := r :: s.L } := by
  unfold feedT
  simp only [hE]
  simp
theorem feedT0_late {lo hi md : Int} {r : Row} {s : TSt} (hE : feedE lo hi 0 r s.st.x s.st.y (s.st.of 0).length = 10) : feedT lo hi md 0 r s = { s with st := feedJ lo hi 0 r s.st, V := applyV s.V (feedC lo hi md 0 r s.st), f0 := fedI 10 s.f0 } := by
  unfold feedT
  simp only [hE]
  simp
theorem feedT1_ok {lo hi md : Int} {r : Row} {s : TSt} (hE : feedE lo hi 1 r s.st.x s.st.y (s.st.of 1).length = 0) : feedT lo hi md 1 r s = { s with st := feedJ lo hi 1 r s.st, V := applyV s.V (feedC lo hi md 1 r s.st), f1 := fedI 0 s.f1, R := r :: s.R } := by
  unfold feedT
  simp only [hE]
  simp
theorem feedT1_late {lo hi md : Int} {r : Row} {s : TSt} (hE : feedE lo hi 1 r s.st.x s.st.y (s.st.of 1).length = 10) : feedT lo hi md 1 r s = { s with st := feedJ lo hi 1 r s.st, V := applyV s.V (feedC lo hi md 1 r s.st), f1 := fedI 10 s.f1 } := by
  unfold feedT
  simp only [hE]
  simp
/-- What stays true of a tale, behind n steps. -/
structure TOk (lo hi md : Int) (s : TSt) (n : Nat) : Prop where
  inv : EInv lo hi md s.st s.L s.R s.V
  ha : ∀ h ∈ s.st.a, s.st.y < tilI lo hi 0 h.r.t
  hb : ∀ h ∈ s.st.b, s.st.x < tilI lo hi 1 h.r.t
  lL : s.L.length ≤ n
  lR : s.R.length ≤ n
  rL : ∀ r ∈ s.L, smallR r
  rR : ∀ r ∈ s.R, smallR r
  mx : s.st.x = -1099511627777 ∨ s.st.x = s.a0
  my : s.st.y = -1099511627777 ∨ s.st.y = s.a1
  a0 : -300 ≤ s.a0 ∧ s.a0 ≤ -300 + 60 * (n : Int)
  a1 : -300 ≤ s.a1 ∧ s.a1 ≤ -300 + 60 * (n : Int)
  f0 : 0 ≤ s.f0 ∧ s.f0 ≤ n
  f1 : 0 ≤ s.f1 ∧ s.f1 ≤ n
  late : 0 ≤ s.st.late ∧ s.st.late ≤ n
theorem TOk.new (lo hi md : Int) : TOk lo hi md TSt.new 0 :=
  ⟨EInv.new lo hi md _ _ _, (fun _ h => nomatch h), (fun _ h => nomatch h), Nat.le_refl _, Nat.le_refl _, (fun _ h => nomatch h), (fun _ h => nomatch h), .inl rfl, .inl rfl, by decide, by decide, by decide, by decide, by decide⟩
theorem TOk.more {lo hi md : Int} {s : TSt} {n : Nat} (h : TOk lo hi md s n) : TOk lo hi md s (n + 1) := by
  have h1 := h.lL; have h2 := h.lR; have h3 := h.a0; have h4 := h.a1; have h5 := h.f0; have h6 := h.f1; have h7 := h.late
  exact ⟨h.inv, h.ha, h.hb, by omega, by omega, h.rL, h.rR, h.mx, h.my, by push_cast; omega, by push_cast; omega, by push_cast; omega, by push_cast; omega, by push_cast; omega⟩
theorem HInv.len {lo hi : Int} {s : Nat} {hs : List Hd} {X Y : List Row} {z : Int} (h : HInv lo hi s hs X Y z) : hs.length ≤ X.length := by
  obtain ⟨D, hp, -⟩ := h.all
  rw [hp.length_eq, List.length_append, List.length_map]; omega
theorem TOk.la {lo hi md : Int} {s : TSt} {n : Nat} (h : TOk lo hi md s n) : s.st.a.length ≤ n := Nat.le_trans h.inv.a.len h.lL
theorem TOk.lb {lo hi md : Int} {s : TSt} {n : Nat} (h : TOk lo hi md s n) : s.st.b.length ≤ n := Nat.le_trans h.inv.b.len h.lR
theorem pairs_len (lo hi : Int) (s : Nat) (Y : List Row) : ∀ X : List Row, (pairsL lo hi s X Y).length ≤ X.length * Y.length
  | [] => by simp [pairsL]
  | x :: X => by
    have ih := pairs_len lo hi s Y X
    have : ((Y.filter (mtB lo hi s x)).map (prO s x)).length ≤ Y.length := by rw [List.length_map]; exact List.length_filter_le _ _
    unfold pairsL at *
    rw [List.flatMap_cons, List.length_append, List.length_cons, Nat.add_mul, Nat.one_mul]
    omega
theorem lones_len (lo hi md : Int) (s : Nat) (X Y : List Row) : (lonesL lo hi md s X Y).length ≤ X.length := by
  unfold lonesL
  split
  · rw [List.length_map]; exact List.length_filter_le _ _
  · simp
theorem TOk.lV {lo hi md : Int} {s : TSt} {n : Nat} (h : TOk lo hi md s n) : s.V.length ≤ n * n + 2 * n := by
  rw [h.inv.v.length_eq]
  unfold should
  rw [List.length_append, List.length_append]
  have h1 := pairs_len lo hi 0 s.R s.L
  have h2 := lones_len lo hi md 0 s.L s.R
  have h3 := lones_len lo hi md (1 - 0) s.R s.L
  have h4 := h.lL
  have h5 := h.lR
  have h6 : s.L.length * s.R.length ≤ n * n := Nat.mul_le_mul h4 h5
  omega

theorem TOk.feed0 {lo hi md : Int} {s : TSt} {n : Nat} (h : TOk lo hi md s n) (hn : n < 300) (r : Row) (hr : smallR r) : TOk lo hi md (feedT lo hi md 0 r s) (n + 1) ∧ ValidV s.V (feedC lo hi md 0 r s.st) := by
  have hlen : (s.st.of 0).length < 300 := by have := h.la; show s.st.a.length < 300; omega
  have h1 := h.lL; have h2 := h.lR; have h3 := h.a0; have h4 := h.a1; have h5 := h.f0; have h6 := h.f1; have h7 := h.late
  have w1 : wrap64 (s.f0 + 1) = s.f0 + 1 := by unfold wrap64; omega
  have w2 : wrap64 (s.f1 + 1) = s.f1 + 1 := by unfold wrap64; omega
  have w3 : wrap64 (s.st.late + 1) = s.st.late + 1 := by unfold wrap64; omega
  rcases feedE_two hr s.st.x s.st.y (lo := lo) (hi := hi) (s := 0) hlen with hE | hE
  · obtain ⟨hv, hi'⟩ := h.inv.feed0 r hE (by omega)
    have ef : fedI 0 s.f0 = s.f0 + 1 := by unfold fedI; rw [if_pos (.inl rfl)]; exact w1
    have e : feedT lo hi md 0 r s = { s with st := feedJ lo hi 0 r s.st, L := r :: s.L, V := applyV s.V (feedC lo hi md 0 r s.st), f0 := s.f0 + 1 } := by
      rw [feedT0_ok hE, ef]
    have ex : (feedJ lo hi 0 r s.st).x = s.st.x ∧ (feedJ lo hi 0 r s.st).y = s.st.y ∧ (feedJ lo hi 0 r s.st).late = s.st.late ∧
        (feedJ lo hi 0 r s.st).b = s.st.b.map (bumpIf (meetP r.k (frI lo hi 0 r.t) (tilI lo hi 0 r.t))) ∧
        ((feedJ lo hi 0 r s.st).a = s.st.a ∨ (∃ m, (feedJ lo hi 0 r s.st).a = addH s.st.a ⟨r, m⟩) ∧ s.st.y < tilI lo hi 0 r.t) := by
      unfold feedJ
      simp only [hE]
      rw [if_neg (by decide), if_pos trivial]
      split
      · rename_i hh; exact ⟨rfl, rfl, rfl, rfl, .inr ⟨⟨_, rfl⟩, hh⟩⟩
      · exact ⟨rfl, rfl, rfl, rfl, .inl rfl⟩
    obtain ⟨e1, e2, e3, e4, e5⟩ := ex
    refine ⟨?_, hv⟩
    rw [e]
    refine ⟨hi', ?_, ?_, ?_, ?_, ?_, ?_, by rw [e1]; exact h.mx, by rw [e2]; exact h.my, by push_cast; omega, by push_cast; omega, ?_, ?_, by rw [e3]; push_cast; omega⟩
    · intro g hg
      rw [e2]
      rcases e5 with e5 | ⟨⟨m, e5⟩, hh⟩
      · rw [e5] at hg; exact h.ha g hg
      · rw [e5] at hg
        rcases List.mem_cons.1 ((addH_perm _ _).mem_iff.1 hg) with rfl | hg
        · exact hh
        · exact h.ha g hg
    · intro g hg
      rw [e1]
      rw [e4] at hg
      obtain ⟨g0, hg0, rfl⟩ := List.mem_map.1 hg
      rw [bumpIf_r]
      exact h.hb g0 hg0
    · simp; omega
    · simp; omega
    · exact fun q hq => (List.mem_cons.1 hq).elim (fun e => e ▸ hr) (h.rL q)
    · exact h.rR
    · simp only; push_cast; omega
    · simp only; push_cast; omega
  · have eC : feedC lo hi md 0 r s.st = [] := by unfold feedC; rw [if_neg (by rw [hE]; decide)]
    have eJ : feedJ lo hi 0 r s.st = { s.st with late := s.st.late + 1 } := by unfold feedJ; simp only [hE]; rw [if_pos trivial, w3]
    have ef : fedI 10 s.f0 = s.f0 + 1 := by unfold fedI; rw [if_pos (.inr rfl)]; exact w1
    have e : feedT lo hi md 0 r s = { s with st := { s.st with late := s.st.late + 1 }, f0 := s.f0 + 1 } := by
      rw [feedT0_late hE, ef, eC, eJ]; rfl
    rw [eC]
    refine ⟨?_, trivial⟩
    rw [e]
    exact ⟨h.inv.late _, h.ha, h.hb, by simp only; omega, by simp only; omega, h.rL, h.rR, h.mx, h.my, by push_cast; omega, by push_cast; omega, by simp only; push_cast; omega, by simp only; push_cast; omega, by simp only; push_cast; omega⟩
theorem TOk.feed1 {lo hi md : Int} {s : TSt} {n : Nat} (h : TOk lo hi md s n) (hn : n < 300) (r : Row) (hr : smallR r) : TOk lo hi md (feedT lo hi md 1 r s) (n + 1) ∧ ValidV s.V (feedC lo hi md 1 r s.st) := by
  have hlen : (s.st.of 1).length < 300 := by have := h.lb; show s.st.b.length < 300; omega
  have h1 := h.lL; have h2 := h.lR; have h3 := h.a0; have h4 := h.a1; have h5 := h.f0; have h6 := h.f1; have h7 := h.late
  have w1 : wrap64 (s.f0 + 1) = s.f0 + 1 := by unfold wrap64; omega
  have w2 : wrap64 (s.f1 + 1) = s.f1 + 1 := by unfold wrap64; omega
  have w3 : wrap64 (s.st.late + 1) = s.st.late + 1 := by unfold wrap64; omega
  rcases feedE_two hr s.st.x s.st.y (lo := lo) (hi := hi) (s := 1) hlen with hE | hE
  · obtain ⟨hv, hi'⟩ := h.inv.feed1 r hE (by omega)
    have ef : fedI 0 s.f1 = s.f1 + 1 := by unfold fedI; rw [if_pos (.inl rfl)]; exact w2
    have e : feedT lo hi md 1 r s = { s with st := feedJ lo hi 1 r s.st, R := r :: s.R, V := applyV s.V (feedC lo hi md 1 r s.st), f1 := s.f1 + 1 } := by
      rw [feedT1_ok hE, ef]
    have ex : (feedJ lo hi 1 r s.st).x = s.st.x ∧ (feedJ lo hi 1 r s.st).y = s.st.y ∧ (feedJ lo hi 1 r s.st).late = s.st.late ∧
        (feedJ lo hi 1 r s.st).a = s.st.a.map (bumpIf (meetP r.k (frI lo hi 1 r.t) (tilI lo hi 1 r.t))) ∧
        ((feedJ lo hi 1 r s.st).b = s.st.b ∨ (∃ m, (feedJ lo hi 1 r s.st).b = addH s.st.b ⟨r, m⟩) ∧ s.st.x < tilI lo hi 1 r.t) := by
      unfold feedJ
      simp only [hE]
      rw [if_neg (by decide), if_pos trivial]
      split
      · rename_i hh; exact ⟨rfl, rfl, rfl, rfl, .inr ⟨⟨_, rfl⟩, hh⟩⟩
      · exact ⟨rfl, rfl, rfl, rfl, .inl rfl⟩
    obtain ⟨e1, e2, e3, e4, e5⟩ := ex
    refine ⟨?_, hv⟩
    rw [e]
    refine ⟨hi', ?_, ?_, ?_, ?_, ?_, ?_, by rw [e1]; exact h.mx, by rw [e2]; exact h.my, by push_cast; omega, by push_cast; omega, ?_, ?_, by rw [e3]; push_cast; omega⟩
    · intro g hg
      rw [e2]
      rw [e4] at hg
      obtain ⟨g0, hg0, rfl⟩ := List.mem_map.1 hg
      rw [bumpIf_r]
      exact h.ha g0 hg0
    · intro g hg
      rw [e1]
      rcases e5 with e5 | ⟨⟨m, e5⟩, hh⟩
      · rw [e5] at hg; exact h.hb g hg
      · rw [e5] at hg
        rcases List.mem_cons.1 ((addH_perm _ _).mem_iff.1 hg) with rfl | hg
        · exact hh
        · exact h.hb g hg
    · simp; omega
    · simp; omega
    · exact h.rL
    · exact fun q hq => (List.mem_cons.1 hq).elim (fun e => e ▸ hr) (h.rR q)
    · simp only; push_cast; omega
    · simp only; push_cast; omega
  · have eC : feedC lo hi md 1 r s.st = [] := by unfold feedC; rw [if_neg (by rw [hE]; decide)]
    have eJ : feedJ lo hi 1 r s.st = { s.st with late := s.st.late + 1 } := by unfold feedJ; simp only [hE]; rw [if_pos trivial, w3]
    have ef : fedI 10 s.f1 = s.f1 + 1 := by unfold fedI; rw [if_pos (.inr rfl)]; exact w2
    have e : feedT lo hi md 1 r s = { s with st := { s.st with late := s.st.late + 1 }, f1 := s.f1 + 1 } := by
      rw [feedT1_late hE, ef, eC, eJ]; rfl
    rw [eC]
    refine ⟨?_, trivial⟩
    rw [e]
    exact ⟨h.inv.late _, h.ha, h.hb, by simp only; omega, by simp only; omega, h.rL, h.rR, h.mx, h.my, by push_cast; omega, by push_cast; omega, by simp only; push_cast; omega, by simp only; push_cast; omega, by simp only; push_cast; omega⟩

theorem TOk.move0 {lo hi md : Int} {s : TSt} {n : Nat} (h : TOk lo hi md s n) (d : Int) (h0 : 0 ≤ d) (h1 : d ≤ 59) : TOk lo hi md (moveT lo hi 0 d s) (n + 1) := by
  have hm := h.more
  have q3 := h.a0; have q4 := hm.a1
  unfold moveT
  rw [if_pos rfl]
  have hi' := h.inv.move 0 (s.a0 + d) (by rw [if_pos rfl]; have := h.mx; omega)
  have ej : moveJ lo hi 0 (s.a0 + d) s.st = { s.st with x := s.a0 + d, b := s.st.b.filter (fun h => decide (tilI lo hi 1 h.r.t > s.a0 + d)) } := by unfold moveJ; exact if_pos rfl
  rw [ej] at hi' ⊢
  exact ⟨hi', hm.ha, fun g hg => by have := (List.mem_filter.1 hg).2; simpa using this, hm.lL, hm.lR, hm.rL, hm.rR, .inr rfl, hm.my, by simp only; push_cast; omega, hm.a1, hm.f0, hm.f1, hm.late⟩
theorem TOk.move1 {lo hi md : Int} {s : TSt} {n : Nat} (h : TOk lo hi md s n) (d : Int) (h0 : 0 ≤ d) (h1 : d ≤ 59) : TOk lo hi md (moveT lo hi 1 d s) (n + 1) := by
  have hm := h.more
  have q3 := h.a1
  unfold moveT
  rw [if_neg (by decide)]
  have hi' := h.inv.move 1 (s.a1 + d) (by rw [if_neg (by decide)]; have := h.my; omega)
  have ej : moveJ lo hi 1 (s.a1 + d) s.st = { s.st with y := s.a1 + d, a := s.st.a.filter (fun h => decide (tilI lo hi 0 h.r.t > s.a1 + d)) } := by unfold moveJ; exact if_neg (by decide)
  rw [ej] at hi' ⊢
  exact ⟨hi', fun g hg => by have := (List.mem_filter.1 hg).2; simpa using this, hm.hb, hm.lL, hm.lR, hm.rL, hm.rR, hm.mx, .inr rfl, hm.a0, by simp only; push_cast; omega, hm.f0, hm.f1, hm.late⟩
theorem TOk.perm {lo hi md : Int} {s : TSt} {n : Nat} (h : TOk lo hi md s n) {V : List Out} (hp : V.Perm s.V) : TOk lo hi md { s with V := V } n :=
  ⟨⟨h.inv.a, h.inv.b, hp.trans h.inv.v⟩, h.ha, h.hb, h.lL, h.lR, h.rL, h.rR, h.mx, h.my, h.a0, h.a1, h.f0, h.f1, h.late⟩

/-! ### counts, zeros kept -/
theorem CountsZ.add {m : List (Out × Value)} {l : List Out} (h : CountsZ m l) (x : Out) : CountsZ (putK m x (.int .i64 (((l.count x : Nat) : Int) + 1))) (x :: l) := by
  intro y
  rw [look_putK]
  by_cases hy : y = x
  · subst hy; simp
  · have hxy : ¬ x = y := fun e => hy e.symm
    simp only [if_neg hy, h y]
    simp [hxy]
theorem CountsZ.less {m : List (Out × Value)} {l : List Out} (h : CountsZ m l) (x : Out) (hx : x ∈ l) : CountsZ (putK m x (.int .i64 (((l.count x : Nat) : Int) - 1))) (l.erase x) := by
  intro y
  rw [look_putK]
  by_cases hy : y = x
  · subst hy
    have := List.count_pos_iff.2 hx
    simp only [if_pos, Option.getD_some, List.count_erase_self]
    congr 1; omega
  · simp only [if_neg hy, h y, count_erase_other hy]
theorem CountsZ.perm {m : List (Out × Value)} {l l' : List Out} (h : CountsZ m l) (hp : l.Perm l') : CountsZ m l' := fun x => by rw [h x, hp.count_eq]
theorem flat_count (x : Out) : ∀ m : List (Out × Value), (m.map (·.1)).Nodup → (∀ p ∈ m, ∃ c : Nat, p.2 = .int .i64 c) → (flat m).count x = match mlook m x with | some (.int _ n) => n.toNat | _ => 0
  | [], _, _ => by simp [flat, mlook]
  | p :: r, hn, hp => by
    simp only [List.map_cons, List.nodup_cons] at hn
    obtain ⟨c, hc⟩ := hp p (by simp)
    have hr := flat_count x r hn.2 (fun q hq => hp q (by simp [hq]))
    have e1 : flat (p :: r) = List.replicate c p.1 ++ flat r := by simp [flat, flat1, hc]
    rw [e1, List.count_append, hr]
    by_cases hx : p.1 = x
    · have hno : mlook r x = none := mlook_none (fun q hq e => hn.1 (List.mem_map.2 ⟨q, hq, e.trans hx.symm⟩))
      rw [hno]
      simp [mlook, hx, hc]
    · rw [List.count_replicate]
      simp [mlook, hx]
theorem CountsZ.vals {m : List (Out × Value)} {l : List Out} (h : CountsZ m l) (hn : (m.map (·.1)).Nodup) : ∀ p ∈ m, p.2 = .int .i64 (l.count p.1 : Nat) := by
  intro p hp
  have := mlook_mem hn (x := p.1) (v := p.2) hp
  have hz := h p.1
  rw [this] at hz
  exact hz
theorem CountsZ.flat {m : List (Out × Value)} {l : List Out} (h : CountsZ m l) (hn : (m.map (·.1)).Nodup) : (flat m).Perm l := by
  rw [List.perm_iff_count]
  intro x
  rw [flat_count x m hn fun p hp => ⟨_, h.vals hn p hp⟩]
  have hz := h x
  cases hm : mlook m x with
  | none => rw [hm] at hz; simp at hz; simp; omega
  | some v => rw [hm] at hz; simp only [Option.getD_some] at hz; subst hz; simp
/-- What goes is there. -/
theorem valid_at : ∀ (cs : List (Out × Bool)) (V : List Out) (i : Nat) (hi : i < cs.length), ValidV V cs → (cs[i]).2 = true → (cs[i]).1 ∈ applyV V (cs.take i)
  | c :: cs, V, 0, _, h, hg => by simpa [applyV] using h.1 hg
  | c :: cs, V, i + 1, hi, h, hg => by
    rw [List.take_succ_cons, applyV_cons]
    exact valid_at cs _ i (by simpa using hi) h.2 hg
theorem applyV_snoc (V : List Out) (cs : List (Out × Bool)) (i : Nat) (hi : i < cs.length) : applyV V (cs.take (i + 1)) = stepV (applyV V (cs.take i)) cs[i] := by
  rw [List.take_succ_eq_append_getElem hi]
  unfold applyV
  rw [List.foldl_append]; rfl
/-- A gone one is a lone one. -/
theorem gone_lone {lo hi md : Int} {s : Nat} {r : Row} {st : JSt} : ∀ c ∈ feedC lo hi md s r st, c.2 = true → (c.1.hl && c.1.hr) = false := by
  intro c hc hg
  have hl : ∀ (s : Nat) (x : Row), ((loneS s x).hl && (loneS s x).hr) = false := fun s x => by unfold loneS; split <;> rfl
  unfold feedC at hc
  split at hc
  · unfold chgs at hc
    rcases List.mem_append.1 hc with hc | hc
    · obtain ⟨m, hm', hc⟩ := List.mem_flatMap.1 hc
      unfold chg1 at hc
      rcases List.mem_append.1 hc with hc | hc
      · split at hc
        · rw [List.mem_singleton] at hc; subst hc; exact hl _ _
        · cases hc
      · rw [List.mem_singleton] at hc; subst hc; cases hg
    · split at hc
      · rw [List.mem_singleton] at hc; subst hc; exact hl _ _
      · cases hc
  · cases hc
end Go.Proofs.YtmcgnnmffeojpaaGreatDoor
namespace Go.Proofs.YtmcgnnmffeojpaaGreatDoor
open Go.RowKit Go.Plan

/-- A tale: its own block T, its map F (it counts W), its engine E with the blocks Bs, the rows v0, v1 of its sides. -/
structure TaleIs (u : World) (T F E : Nat) (Bs : Nat → Prop) (v0 v1 : Value) (lo hi md : Int) (s : TSt) (m : List (Out × Value)) (W : List Out) : Prop where
  own : TCells u T F E lo hi md v0 v1 s.a0 s.a1
  eng : EAt u E Bs lo hi md s.st s.V s.V s.f0 s.f1
  r0 : TRow u 0 v0 s.L.reverse
  r1 : TRow u 0 v1 s.R.reverse
  mp : MapIs Tryz.prog 58 encO u F m
  cz : CountsZ m W
  nT : ¬ Bs T
  nF : ¬ Bs F
  TF : T ≠ F
  a0 : ∀ k, v0.ownBlock = some k → ¬ Bs k ∧ k ≠ T ∧ k ≠ F
  a1 : ∀ k, v1.ownBlock = some k → ¬ Bs k ∧ k ≠ T ∧ k ≠ F
  a01 : ∀ k, v0.ownBlock = some k → v1.ownBlock ≠ some k
def TFoot (T F : Nat) (Bs : Nat → Prop) (v0 v1 : Value) (k : Nat) : Prop := k = T ∨ k = F ∨ Bs k ∨ v0.ownBlock = some k ∨ v1.ownBlock = some k

section
variable {u u' : World} {T F E : Nat} {Bs : Nat → Prop} {v0 v1 : Value} {lo hi md x0 x1 : Int} {s : TSt} {m : List (Out × Value)} {W : List Out}
theorem TCells.keep {M : Nat → Prop} (h : TCells u T F E lo hi md v0 v1 x0 x1) (hx : ExtM M u u') (hT : ¬ M T) : TCells u' T F E lo hi md v0 v1 x0 x1 := by
  have l := cell_lt' h.c0
  have k := fun o => hx.cell (p := ⟨T, o, none⟩) l hT
  exact ⟨(k _).trans h.c0, (k _).trans h.c1, (k _).trans h.c2, (k _).trans h.c3, (k _).trans h.c4, (k _).trans h.c5, (k _).trans h.c6, (k _).trans h.c7, (k _).trans h.c8, fun q => (hx.frozen (p := ⟨T, q, none⟩) l hT).trans (h.fz q)⟩
theorem TaleIs.keep {M : Nat → Prop} (h : TaleIs u T F E Bs v0 v1 lo hi md s m W) (hx : ExtM M u u') (hM : ∀ k, TFoot T F Bs v0 v1 k → ¬ M k) : TaleIs u' T F E Bs v0 v1 lo hi md s m W :=
  ⟨h.own.keep hx (hM _ (.inl rfl)), h.eng.keep hx (fun k hk => hM k (.inr (.inr (.inl hk)))), own_ext h.r0 hx (fun k hk => hM k (.inr (.inr (.inr (.inl hk))))), own_ext h.r1 hx (fun k hk => hM k (.inr (.inr (.inr (.inr hk))))), h.mp.of hx (hM _ (.inr (.inl rfl))), h.cz, h.nT, h.nF, h.TF, h.a0, h.a1, h.a01⟩
theorem TaleIs.ext (h : TaleIs u T F E Bs v0 v1 lo hi md s m W) (hx : Ext u u') : TaleIs u' T F E Bs v0 v1 lo hi md s m W := h.keep hx (fun _ _ h => h)
theorem TaleIs.foot (h : TaleIs u T F E Bs v0 v1 lo hi md s m W) (k : Nat) (hk : TFoot T F Bs v0 v1 k) : k < u.heap.size := by
  rcases hk with rfl | rfl | hk | hk | hk
  · exact cell_lt' h.own.c0
  · exact h.mp.lt
  · exact h.eng.lt k hk
  · exact (own_lt h.r0 k hk).2
  · exact (own_lt h.r1 k hk).2
/-- The engine turns. -/
theorem TaleIs.fed {st' : JSt} {V' : List Out} {f0' f1' : Int} (h : TaleIs u T F E Bs v0 v1 lo hi md s m W) (hu : EUp u u' E Bs lo hi md st' V' V' f0' f1') :
    ∃ Bs', TaleIs u' T F E Bs' v0 v1 lo hi md { s with st := st', V := V', f0 := f0', f1 := f1' } m W ∧ ∀ k, Bs' k → Bs k ∨ u.heap.size ≤ k := by
  obtain ⟨hx, Bs', ha, hb⟩ := hu
  have hf := h.foot
  refine ⟨Bs', ⟨h.own.keep hx h.nT, ha, own_ext h.r0 hx (fun k hk => (h.a0 k hk).1), own_ext h.r1 hx (fun k hk => (h.a1 k hk).1), h.mp.of hx h.nF, h.cz, fun e => ?_, fun e => ?_, h.TF, fun k hk => ⟨fun e => ?_, (h.a0 k hk).2⟩, fun k hk => ⟨fun e => ?_, (h.a1 k hk).2⟩, h.a01⟩, hb⟩
  · rcases hb _ e with e | e
    · exact h.nT e
    · have := hf T (.inl rfl); omega
  · rcases hb _ e with e | e
    · exact h.nF e
    · have := hf F (.inr (.inl rfl)); omega
  · rcases hb _ e with e | e
    · exact (h.a0 k hk).1 e
    · have := hf k (.inr (.inr (.inr (.inl hk)))); omega
  · rcases hb _ e with e | e
    · exact (h.a1 k hk).1 e
    · have := hf k (.inr (.inr (.inr (.inr hk)))); omega
/-- Another cell of the tale's own. -/
theorem setT (T o : Nat) (v : Value) (u : World) : ExtM (fun k => k = T) u (u.setCell ⟨T, o, none⟩ v) ∧ (∀ q, q ≠ o → (u.setCell ⟨T, o, none⟩ v).cell? ⟨T, q, none⟩ = u.cell? ⟨T, q, none⟩) ∧ ∀ q, (u.setCell ⟨T, o, none⟩ v).frozen? ⟨T, q, none⟩ = u.frozen? ⟨T, q, none⟩ :=
  ⟨ExtM.setCell (M := fun k => k = T) (ExtM.refl u) (p := ⟨T, o, none⟩) (.inr rfl) _, fun q hq => World.cell?_setCell_other _ _ _ _ (by intro e; simp only [Addr.mk.injEq, and_true, true_and] at e; omega), fun q => World.frozen?_setCell _ _ _ _⟩
/-- A row more is among those that were taken. -/
theorem TaleIs.row0 {v' : Value} {r : Row} (h : TaleIs u T F E Bs v0 v1 lo hi md s m W) (hx : ExtM (fun k => v0.ownBlock = some k) u u') (hr : TRow u' 0 v' (r :: s.L).reverse) (hb : v'.ownBlock = v0.ownBlock ∨ ∃ k, v'.ownBlock = some k ∧ u.heap.size ≤ k) :
    TaleIs (u'.setCell ⟨T, 4, none⟩ v') T F E Bs v' v1 lo hi md { s with L := r :: s.L } m W ∧ ExtM (fun k => k = T ∨ v0.ownBlock = some k) u (u'.setCell ⟨T, 4, none⟩ v') ∧ ∀ k, TFoot T F Bs v' v1 k → TFoot T F Bs v0 v1 k ∨ u.heap.size ≤ k := by
  have hf := h.foot
  obtain ⟨hs, hc, hz⟩ := setT T 4 v' u'
  have hT : ¬ v0.ownBlock = some T := fun e => (h.a0 T e).2.1 rfl
  have hF : ¬ v0.ownBlock = some F := fun e => (h.a0 F e).2.2 rfl
  have ho := h.own.keep hx hT
  have hn : ∀ k, v'.ownBlock = some k → v0.ownBlock = some k ∨ u.heap.size ≤ k := fun k hk => by
    rcases hb with e | ⟨q, e, hq⟩
    · exact .inl (e ▸ hk)
    · rw [e] at hk; cases hk; exact .inr hq
  have hA : ∀ k, v'.ownBlock = some k → ¬ Bs k ∧ k ≠ T ∧ k ≠ F := fun k hk => (hn k hk).elim (fun e => h.a0 k e) (fun e => ⟨fun q => by have := hf k (.inr (.inr (.inl q))); omega, fun q => by have := hf T (.inl rfl); omega, fun q => by have := hf F (.inr (.inl rfl)); omega⟩)
  have hN : ∀ k, v'.ownBlock = some k → ¬ k = T := fun k hk => (hA k hk).2.1
  refine ⟨⟨⟨(hc 0 (by decide)).trans ho.c0, (hc 1 (by decide)).trans ho.c1, (hc 2 (by decide)).trans ho.c2, (hc 3 (by decide)).trans ho.c3, World.cell?_setCell_same _ _ _ ho.c4, (hc 5 (by decide)).trans ho.c5, (hc 6 (by decide)).trans ho.c6, (hc 7 (by decide)).trans ho.c7, (hc 8 (by decide)).trans ho.c8, fun q => (hz q).trans (ho.fz q)⟩,
    (h.eng.keep hx (fun k hk e => (h.a0 k e).1 hk)).keep hs (fun k hk e => h.nT (e ▸ hk)), own_ext hr hs (fun k hk e => hN k hk e), own_ext (own_ext h.r1 hx (fun k hk e => h.a01 k e hk)) hs (fun k hk e => (h.a1 k hk).2.1 e), (h.mp.of hx hF).of hs (fun e => h.TF e.symm), h.cz, h.nT, h.nF, h.TF, hA, h.a1, fun k hk hk' => ?_⟩, ?_, fun k hk => ?_⟩
  · exact (hn k hk).elim (fun e => h.a01 k e hk') (fun e => absurd (hf k (.inr (.inr (.inr (.inr hk'))))) (Nat.not_lt.2 e))
  · exact ExtM.trans _ _ _ (hx.mono fun k _ e => .inr e) (hs.mono fun k _ e => .inl e)
  · rcases hk with hk | hk | hk | hk | hk
    · exact .inl (.inl hk)
    · exact .inl (.inr (.inl hk))
    · exact .inl (.inr (.inr (.inl hk)))
    · exact (hn k hk).elim (fun e => .inl (.inr (.inr (.inr (.inl e))))) .inr
    · exact .inl (.inr (.inr (.inr (.inr hk))))
/-- A row more is among those that were taken. -/
theorem TaleIs.row1 {v' : Value} {r : Row} (h : TaleIs u T F E Bs v0 v1 lo hi md s m W) (hx : ExtM (fun k => v1.ownBlock = some k) u u') (hr : TRow u' 0 v' (r :: s.R).reverse) (hb : v'.ownBlock = v1.ownBlock ∨ ∃ k, v'.ownBlock = some k ∧ u.heap.size ≤ k) :
    TaleIs (u'.setCell ⟨T, 5, none⟩ v') T F E Bs v0 v' lo hi md { s with R := r :: s.R } m W ∧ ExtM (fun k => k = T ∨ v1.ownBlock = some k) u (u'.setCell ⟨T, 5, none⟩ v') ∧ ∀ k, TFoot T F Bs v0 v' k → TFoot T F Bs v0 v1 k ∨ u.heap.size ≤ k := by
  have hf := h.foot
  obtain ⟨hs, hc, hz⟩ := setT T 5 v' u'
  have hT : ¬ v1.ownBlock = some T := fun e => (h.a1 T e).2.1 rfl
  have hF : ¬ v1.ownBlock = some F := fun e => (h.a1 F e).2.2 rfl
  have ho := h.own.keep hx hT
  have hn : ∀ k, v'.ownBlock = some k → v1.ownBlock = some k ∨ u.heap.size ≤ k := fun k hk => by
    rcases hb with e | ⟨q, e, hq⟩
    · exact .inl (e ▸ hk)
    · rw [e] at hk; cases hk; exact .inr hq
  have hA : ∀ k, v'.ownBlock = some k → ¬ Bs k ∧ k ≠ T ∧ k ≠ F := fun k hk => (hn k hk).elim (fun e => h.a1 k e) (fun e => ⟨fun q => by have := hf k (.inr (.inr (.inl q))); omega, fun q => by have := hf T (.inl rfl); omega, fun q => by have := hf F (.inr (.inl rfl)); omega⟩)
  have hN : ∀ k, v'.ownBlock = some k → ¬ k = T := fun k hk => (hA k hk).2.1
  refine ⟨⟨⟨(hc 0 (by decide)).trans ho.c0, (hc 1 (by decide)).trans ho.c1, (hc 2 (by decide)).trans ho.c2, (hc 3 (by decide)).trans ho.c3, (hc 4 (by decide)).trans ho.c4, World.cell?_setCell_same _ _ _ ho.c5, (hc 6 (by decide)).trans ho.c6, (hc 7 (by decide)).trans ho.c7, (hc 8 (by decide)).trans ho.c8, fun q => (hz q).trans (ho.fz q)⟩,
    (h.eng.keep hx (fun k hk e => (h.a1 k e).1 hk)).keep hs (fun k hk e => h.nT (e ▸ hk)), own_ext (own_ext h.r0 hx (fun k hk e => h.a01 k hk e)) hs (fun k hk e => (h.a0 k hk).2.1 e), own_ext hr hs (fun k hk e => hN k hk e), (h.mp.of hx hF).of hs (fun e => h.TF e.symm), h.cz, h.nT, h.nF, h.TF, h.a0, hA, fun k hk hk' => ?_⟩, ?_, fun k hk => ?_⟩
  · exact (hn k hk').elim (fun e => h.a01 k hk e) (fun e => absurd (hf k (.inr (.inr (.inr (.inl hk))))) (Nat.not_lt.2 e))
  · exact ExtM.trans _ _ _ (hx.mono fun k _ e => .inr e) (hs.mono fun k _ e => .inl e)
  · rcases hk with hk | hk | hk | hk | hk
    · exact .inl (.inl hk)
    · exact .inl (.inr (.inl hk))
    · exact .inl (.inr (.inr (.inl hk)))
    · exact .inl (.inr (.inr (.inr (.inl hk))))
    · exact (hn k hk).elim (fun e => .inl (.inr (.inr (.inr (.inr e))))) .inr
/-- The map turns. -/
theorem TaleIs.folded {m' : List (Out × Value)} {W' : List Out} (h : TaleIs u T F E Bs v0 v1 lo hi md s m W) (hx : ExtM (fun k => k = F) u u') (hm : MapIs Tryz.prog 58 encO u' F m') (hz : CountsZ m' W') :
    TaleIs u' T F E Bs v0 v1 lo hi md s m' W' :=
  ⟨h.own.keep hx h.TF, h.eng.keep hx (fun _k hk e => h.nF (e ▸ hk)), own_ext h.r0 hx (fun k hk e => (h.a0 k hk).2.2 e), own_ext h.r1 hx (fun k hk e => (h.a1 k hk).2.2 e), hm, hz, h.nT, h.nF, h.TF, h.a0, h.a1, h.a01⟩
end

/-- A tale whose blocks are Fs. -/
def TAt (u : World) (T : Nat) (Fs : Nat → Prop) (lo hi md : Int) (s : TSt) : Prop := ∃ F E Bs v0 v1 m, TaleIs u T F E Bs v0 v1 lo hi md s m s.V ∧ Fs = TFoot T F Bs v0 v1
/-- What a step leaves of it. -/
def TUp (u u' : World) (T : Nat) (Fs : Nat → Prop) (lo hi md : Int) (s : TSt) : Prop := ExtM Fs u u' ∧ ∃ Fs', TAt u' T Fs' lo hi md s ∧ ∀ k, Fs' k → Fs k ∨ u.heap.size ≤ k
section
variable {u u' : World} {T : Nat} {Fs : Nat → Prop} {lo hi md : Int} {s : TSt}
theorem TAt.lt (h : TAt u T Fs lo hi md s) (k : Nat) (hk : Fs k) : k < u.heap.size := by
  obtain ⟨F, E, Bs, v0, v1, m, h, rfl⟩ := h; exact h.foot k hk
theorem TAt.keep {M : Nat → Prop} (h : TAt u T Fs lo hi md s) (hx : ExtM M u u') (hM : ∀ k, Fs k → ¬ M k) : TAt u' T Fs lo hi md s := by
  obtain ⟨F, E, Bs, v0, v1, m, h, rfl⟩ := h; exact ⟨F, E, Bs, v0, v1, m, h.keep hx hM, rfl⟩
theorem TAt.ext (h : TAt u T Fs lo hi md s) (hx : Ext u u') : TAt u' T Fs lo hi md s := h.keep hx (fun _ _ h => h)
theorem TUp.same (h : TAt u T Fs lo hi md s) (hx : Ext u u') : TUp u u' T Fs lo hi md s := ⟨hx.mono (fun _ _ h => h.elim), Fs, h.ext hx, fun _k hk => .inl hk⟩
end
theorem tale_new (low high mode : Int) (w : World) (h1 : I64 low) (h2 : I64 high) (h3 : I64 mode) :
    Calls Tryz.prog 8 #[.int .i64 low, .int .i64 high, .int .i64 mode] w fun e w' => ∃ T Fs, e = .returned (.pointer (some ⟨T, 0, none⟩)) ∧ Ext w w' ∧ TAt w' T Fs (planLo low) (planHi low high) (planMd mode) TSt.new ∧ ∀ k, Fs k → w.heap.size ≤ k := by
  refine (talesnew_c low high mode w h1 h2 h3).mono ?_
  rintro e w' ⟨T, F, E, Bs, rfl, hx, hE, hT, hM, q1, q2, q3, q4, q5, q6⟩
  refine ⟨T, _, rfl, hx, ⟨F, E, Bs, _, _, [], ⟨hT, hE, ⟨rfl, .inl ⟨rfl, rfl⟩⟩, ⟨rfl, .inl ⟨rfl, rfl⟩⟩, hM, fun x => rfl, q4, q5, q3, (fun k hk => nomatch hk), (fun k hk => nomatch hk), (fun k hk => nomatch hk)⟩, rfl⟩, fun k hk => ?_⟩
  rcases hk with rfl | rfl | hk | hk | hk
  · exact q1
  · exact q2
  · exact q6 k hk
  · cases hk
  · cases hk
end Go.Proofs.YtmcgnnmffeojpaaGreatDoor
