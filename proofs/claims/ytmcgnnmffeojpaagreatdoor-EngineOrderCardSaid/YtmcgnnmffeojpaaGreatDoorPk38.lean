/- A tale, plainly: what its steps do to it, and what stays true of it. -/
import Derived.Test.YtmcgnnmffeojpaaGreatDoorPk37
namespace Go.Proofs.YtmcgnnmffeojpaaGreatDoor
open Go.RowKit Go.Plan

/-- A tale: its join, the rows that it took (the last one ahead), its view, how many were fed, how far it let its marks be. -/
structure TSt where
  st : JSt
  L : List Row
  R : List Row
  V : List Out
  f0 : Int
  f1 : Int
  a0 : Int
  a1 : Int
def TSt.new : TSt := ⟨⟨[], [], -1099511627777, -1099511627777, 0⟩, [], [], [], 0, 0, -300, -300⟩
/-- The count of the rows that came: see fedI. -/
def feedT (lo hi md : Int) (sd : Nat) (r : Row) (s : TSt) : TSt :=
  let e := feedE lo hi sd r s.st.x s.st.y (s.st.of sd).length
  { st := feedJ lo hi sd r s.st, L := if e = 0 ∧ sd = 0 then r :: s.L else s.L, R := if e = 0 ∧ sd = 1 then r :: s.R else s.R, V := applyV s.V (feedC lo hi md sd r s.st),
    f0 := if sd = 0 then fedI e s.f0 else s.f0, f1 := if sd = 1 then fedI e s.f1 else s.f1, a0 := s.a0, a1 := s.a1 }
def moveT (lo hi : Int) (sd : Nat) (d : Int) (s : TSt) : TSt :=
  if sd = 0 then { s with st := moveJ lo hi 0 (s.a0 + d) s.st, a0 := s.a0 + d } else { s with st := moveJ lo hi 1 (s.a1 + d) s.st, a1 := s.a1 + d }
def smallR (r : Row) : Prop := (0 ≤ r.k ∧ r.k ≤ 3) ∧ (-100 ≤ r.t ∧ r.t ≤ 99) ∧ 0 ≤ r.v ∧ r.v ≤ 49
/-- The row that a step picks. -/
def stepRow (key time value : Int) : Row := ⟨(pickN key 4 : Nat), (pickN time 200 : Nat) - 100, (pickN value 50 : Nat)⟩
theorem stepRow_small (key time value : Int) : smallR (stepRow key time value) := by
  have h1 := pickN_lt key 4 (by decide)
  have h2 := pickN_lt time 200 (by decide)
  have h3 := pickN_lt value 50 (by decide)
  unfold smallR stepRow
  simp only
  omega
theorem smallR.good {r : Row} (h : smallR r) : goodB r.k r.t r.v = true := by
  unfold smallR at h
  unfold goodB inB
  simp only [Bool.and_eq_true, decide_eq_true_eq]
  omega
theorem feedE_two {lo hi : Int} {s : Nat} {r : Row} (h : smallR r) (x y : Int) {n : Nat} (hn : n < 300) : feedE lo hi s r x y n = 0 ∨ feedE lo hi s r x y n = 10 := by
  unfold feedE
  rw [if_neg (by rw [h.good]; decide)]
  by_cases h1 : r.t ≤ (if s = 0 then x else y)
  · rw [if_pos h1]; exact .inr rfl
  · rw [if_neg h1, if_neg (fun e => by have := e.2; omega)]; exact .inl rfl

theorem feedT0_ok {lo hi md : Int} {r : Row} {s : TSt} (hE : feedE lo hi 0 r s.st.x s.st.y (s.st.of 0).length = 0) : feedT lo hi md 0 r s = { s with st := feedJ lo hi 0 r s.st, V := applyV s.V (feedC lo hi md 0 r s.st), f0 := fedI 0 s.f0, L := r :: s.L } := by
  unfold feedT
  simp only [hE]
  simp
theorem feedT0_late {lo hi md : Int} {r : Row} {s : TSt} (hE : feedE lo hi 0 r s.st.x s.st.y (s.st.of 0).length = 10) : feedT lo hi md 0 r s = { s with st := feedJ lo hi 0 r s.st, V := applyV s.V (feedC lo hi md 0 r s.st), f0 := fedI 10 s.f0 } := by
  unfold feedT
  simp only [hE]
  simp
theorem feedT1_ok {lo hi md : Int} {r : Row} {s : TSt} (hE : feedE lo hi 1 r s.st.x s.st.y (s.st.of 1).length = 0) : feedT lo hi md 1 r s = { s with st := feedJ lo hi 1 r s.st, V := applyV s.V (feedC lo hi md 1 r s.st), f1 := fedI 0 s.f1, R := r :: s.R } := by
  unfold feedT
  simp only [hE]
  simp
theorem feedT1_late {lo hi md : Int} {r : Row} {s : TSt} (hE : feedE lo hi 1 r s.st.x s.st.y (s.st.of 1).length = 10) : feedT lo hi md 1 r s = { s with st := feedJ lo hi 1 r s.st, V := applyV s.V (feedC lo hi md 1 r s.st), f1 := fedI 10 s.f1 } := by
  unfold feedT
  simp only [hE]
  simp
/-- What stays true of a tale, behind n steps. -/
structure TOk (lo hi md : Int) (s : TSt) (n : Nat) : Prop where
  inv : EInv lo hi md s.st s.L s.R s.V
  ha : ∀ h ∈ s.st.a, s.st.y < tilI lo hi 0 h.r.t
  hb : ∀ h ∈ s.st.b, s.st.x < tilI lo hi 1 h.r.t
  lL : s.L.length ≤ n
  lR : s.R.length ≤ n
  rL : ∀ r ∈ s.L, smallR r
  rR : ∀ r ∈ s.R, smallR r
  mx : s.st.x = -1099511627777 ∨ s.st.x = s.a0
  my : s.st.y = -1099511627777 ∨ s.st.y = s.a1
  a0 : -300 ≤ s.a0 ∧ s.a0 ≤ -300 + 60 * (n : Int)
  a1 : -300 ≤ s.a1 ∧ s.a1 ≤ -300 + 60 * (n : Int)
  f0 : 0 ≤ s.f0 ∧ s.f0 ≤ n
  f1 : 0 ≤ s.f1 ∧ s.f1 ≤ n
  late : 0 ≤ s.st.late ∧ s.st.late ≤ n
theorem TOk.new (lo hi md : Int) : TOk lo hi md TSt.new 0 :=
  ⟨EInv.new lo hi md _ _ _, (fun _ h => nomatch h), (fun _ h => nomatch h), Nat.le_refl _, Nat.le_refl _, (fun _ h => nomatch h), (fun _ h => nomatch h), .inl rfl, .inl rfl, by decide, by decide, by decide, by decide, by decide⟩
theorem TOk.more {lo hi md : Int} {s : TSt} {n : Nat} (h : TOk lo hi md s n) : TOk lo hi md s (n + 1) := by
  have h1 := h.lL; have h2 := h.lR; have h3 := h.a0; have h4 := h.a1; have h5 := h.f0; have h6 := h.f1; have h7 := h.late
  exact ⟨h.inv, h.ha, h.hb, by omega, by omega, h.rL, h.rR, h.mx, h.my, by push_cast; omega, by push_cast; omega, by push_cast; omega, by push_cast; omega, by push_cast; omega⟩
theorem HInv.len {lo hi : Int} {s : Nat} {hs : List Hd} {X Y : List Row} {z : Int} (h : HInv lo hi s hs X Y z) : hs.length ≤ X.length := by
  obtain ⟨D, hp, -⟩ := h.all
  rw [hp.length_eq, List.length_append, List.length_map]; omega
theorem TOk.la {lo hi md : Int} {s : TSt} {n : Nat} (h : TOk lo hi md s n) : s.st.a.length ≤ n := Nat.le_trans h.inv.a.len h.lL
theorem TOk.lb {lo hi md : Int} {s : TSt} {n : Nat} (h : TOk lo hi md s n) : s.st.b.length ≤ n := Nat.le_trans h.inv.b.len h.lR
theorem pairs_len (lo hi : Int) (s : Nat) (Y : List Row) : ∀ X : List Row, (pairsL lo hi s X Y).length ≤ X.length * Y.length
  | [] => by simp [pairsL]
  | x :: X => by
    have ih := pairs_len lo hi s Y X
    have : ((Y.filter (mtB lo hi s x)).map (prO s x)).length ≤ Y.length := by rw [List.length_map]; exact List.length_filter_le _ _
    unfold pairsL at *
    rw [List.flatMap_cons, List.length_append, List.length_cons, Nat.add_mul, Nat.one_mul]
    omega
theorem lones_len (lo hi md : Int) (s : Nat) (X Y : List Row) : (lonesL lo hi md s X Y).length ≤ X.length := by
  unfold lonesL
  split
  · rw [List.length_map]; exact List.length_filter_le _ _
  · simp
theorem TOk.lV {lo hi md : Int} {s : TSt} {n : Nat} (h : TOk lo hi md s n) : s.V.length ≤ n * n + 2 * n := by
  rw [h.inv.v.length_eq]
  unfold should
  rw [List.length_append, List.length_append]
  have h1 := pairs_len lo hi 0 s.R s.L
  have h2 := lones_len lo hi md 0 s.L s.R
  have h3 := lones_len lo hi md (1 - 0) s.R s.L
  have h4 := h.lL
  have h5 := h.lR
  have h6 : s.L.length * s.R.length ≤ n * n := Nat.mul_le_mul h4 h5
  omega

theorem TOk.feed0 {lo hi md : Int} {s : TSt} {n : Nat} (h : TOk lo hi md s n) (hn : n < 300) (r : Row) (hr : smallR r) : TOk lo hi md (feedT lo hi md 0 r s) (n + 1) ∧ ValidV s.V (feedC lo hi md 0 r s.st) := by
  have hlen : (s.st.of 0).length < 300 := by have := h.la; show s.st.a.length < 300; omega
  have h1 := h.lL; have h2 := h.lR; have h3 := h.a0; have h4 := h.a1; have h5 := h.f0; have h6 := h.f1; have h7 := h.late
  have w1 : wrap64 (s.f0 + 1) = s.f0 + 1 := by unfold wrap64; omega
  have w2 : wrap64 (s.f1 + 1) = s.f1 + 1 := by unfold wrap64; omega
  have w3 : wrap64 (s.st.late + 1) = s.st.late + 1 := by unfold wrap64; omega
  rcases feedE_two hr s.st.x s.st.y (lo := lo) (hi := hi) (s := 0) hlen with hE | hE
  · obtain ⟨hv, hi'⟩ := h.inv.feed0 r hE (by omega)
    have ef : fedI 0 s.f0 = s.f0 + 1 := by unfold fedI; rw [if_pos (.inl rfl)]; exact w1
    have e : feedT lo hi md 0 r s = { s with st := feedJ lo hi 0 r s.st, L := r :: s.L, V := applyV s.V (feedC lo hi md 0 r s.st), f0 := s.f0 + 1 } := by
      rw [feedT0_ok hE, ef]
    have ex : (feedJ lo hi 0 r s.st).x = s.st.x ∧ (feedJ lo hi 0 r s.st).y = s.st.y ∧ (feedJ lo hi 0 r s.st).late = s.st.late ∧
        (feedJ lo hi 0 r s.st).b = s.st.b.map (bumpIf (meetP r.k (frI lo hi 0 r.t) (tilI lo hi 0 r.t))) ∧
        ((feedJ lo hi 0 r s.st).a = s.st.a ∨ (∃ m, (feedJ lo hi 0 r s.st).a = addH s.st.a ⟨r, m⟩) ∧ s.st.y < tilI lo hi 0 r.t) := by
      unfold feedJ
      simp only [hE]
      rw [if_neg (by decide), if_pos trivial]
      split
      · rename_i hh; exact ⟨rfl, rfl, rfl, rfl, .inr ⟨⟨_, rfl⟩, hh⟩⟩
      · exact ⟨rfl, rfl, rfl, rfl, .inl rfl⟩
    obtain ⟨e1, e2, e3, e4, e5⟩ := ex
    refine ⟨?_, hv⟩
    rw [e]
    refine ⟨hi', ?_, ?_, ?_, ?_, ?_, ?_, by rw [e1]; exact h.mx, by rw [e2]; exact h.my, by push_cast; omega, by push_cast; omega, ?_, ?_, by rw [e3]; push_cast; omega⟩
    · intro g hg
      rw [e2]
      rcases e5 with e5 | ⟨⟨m, e5⟩, hh⟩
      · rw [e5] at hg; exact h.ha g hg
      · rw [e5] at hg
        rcases List.mem_cons.1 ((addH_perm _ _).mem_iff.1 hg) with rfl | hg
        · exact hh
        · exact h.ha g hg
    · intro g hg
      rw [e1]
      rw [e4] at hg
      obtain ⟨g0, hg0, rfl⟩ := List.mem_map.1 hg
      rw [bumpIf_r]
      exact h.hb g0 hg0
    · simp; omega
    · simp; omega
    · exact fun q hq => (List.mem_cons.1 hq).elim (fun e => e ▸ hr) (h.rL q)
    · exact h.rR
    · simp only; push_cast; omega
    · simp only; push_cast; omega
  · have eC : feedC lo hi md 0 r s.st = [] := by unfold feedC; rw [if_neg (by rw [hE]; decide)]
    have eJ : feedJ lo hi 0 r s.st = { s.st with late := s.st.late + 1 } := by unfold feedJ; simp only [hE]; rw [if_pos trivial, w3]
    have ef : fedI 10 s.f0 = s.f0 + 1 := by unfold fedI; rw [if_pos (.inr rfl)]; exact w1
    have e : feedT lo hi md 0 r s = { s with st := { s.st with late := s.st.late + 1 }, f0 := s.f0 + 1 } := by
      rw [feedT0_late hE, ef, eC, eJ]; rfl
    rw [eC]
    refine ⟨?_, trivial⟩
    rw [e]
    exact ⟨h.inv.late _, h.ha, h.hb, by simp only; omega, by simp only; omega, h.rL, h.rR, h.mx, h.my, by push_cast; omega, by push_cast; omega, by simp only; push_cast; omega, by simp only; push_cast; omega, by simp only; push_cast; omega⟩
theorem TOk.feed1 {lo hi md : Int} {s : TSt} {n : Nat} (h : TOk lo hi md s n) (hn : n < 300) (r : Row) (hr : smallR r) : TOk lo hi md (feedT lo hi md 1 r s) (n + 1) ∧ ValidV s.V (feedC lo hi md 1 r s.st) := by
  have hlen : (s.st.of 1).length < 300 := by have := h.lb; show s.st.b.length < 300; omega
  have h1 := h.lL; have h2 := h.lR; have h3 := h.a0; have h4 := h.a1; have h5 := h.f0; have h6 := h.f1; have h7 := h.late
  have w1 : wrap64 (s.f0 + 1) = s.f0 + 1 := by unfold wrap64; omega
  have w2 : wrap64 (s.f1 + 1) = s.f1 + 1 := by unfold wrap64; omega
  have w3 : wrap64 (s.st.late + 1) = s.st.late + 1 := by unfold wrap64; omega
  rcases feedE_two hr s.st.x s.st.y (lo := lo) (hi := hi) (s := 1) hlen with hE | hE
  · obtain ⟨hv, hi'⟩ := h.inv.feed1 r hE (by omega)
    have ef : fedI 0 s.f1 = s.f1 + 1 := by unfold fedI; rw [if_pos (.inl rfl)]; exact w2
    have e : feedT lo hi md 1 r s = { s with st := feedJ lo hi 1 r s.st, R := r :: s.R, V := applyV s.V (feedC lo hi md 1 r s.st), f1 := s.f1 + 1 } := by
      rw [feedT1_ok hE, ef]
    have ex : (feedJ lo hi 1 r s.st).x = s.st.x ∧ (feedJ lo hi 1 r s.st).y = s.st.y ∧ (feedJ lo hi 1 r s.st).late = s.st.late ∧
        (feedJ lo hi 1 r s.st).a = s.st.a.map (bumpIf (meetP r.k (frI lo hi 1 r.t) (tilI lo hi 1 r.t))) ∧
        ((feedJ lo hi 1 r s.st).b = s.st.b ∨ (∃ m, (feedJ lo hi 1 r s.st).b = addH s.st.b ⟨r, m⟩) ∧ s.st.x < tilI lo hi 1 r.t) := by
      unfold feedJ
      simp only [hE]
      rw [if_neg (by decide), if_pos trivial]
      split
      · rename_i hh; exact ⟨rfl, rfl, rfl, rfl, .inr ⟨⟨_, rfl⟩, hh⟩⟩
      · exact ⟨rfl, rfl, rfl, rfl, .inl rfl⟩
    obtain ⟨e1, e2, e3, e4, e5⟩ := ex
    refine ⟨?_, hv⟩
    rw [e]
    refine ⟨hi', ?_, ?_, ?_, ?_, ?_, ?_, by rw [e1]; exact h.mx, by rw [e2]; exact h.my, by push_cast; omega, by push_cast; omega, ?_, ?_, by rw [e3]; push_cast; omega⟩
    · intro g hg
      rw [e2]
      rw [e4] at hg
      obtain ⟨g0, hg0, rfl⟩ := List.mem_map.1 hg
      rw [bumpIf_r]
      exact h.ha g0 hg0
    · intro g hg
      rw [e1]
      rcases e5 with e5 | ⟨⟨m, e5⟩, hh⟩
      · rw [e5] at hg; exact h.hb g hg
      · rw [e5] at hg
        rcases List.mem_cons.1 ((addH_perm _ _).mem_iff.1 hg) with rfl | hg
        · exact hh
        · exact h.hb g hg
    · simp; omega
    · simp; omega
    · exact h.rL
    · exact fun q hq => (List.mem_cons.1 hq).elim (fun e => e ▸ hr) (h.rR q)
    · simp only; push_cast; omega
    · simp only; push_cast; omega
  · have eC : feedC lo hi md 1 r s.st = [] := by unfold feedC; rw [if_neg (by rw [hE]; decide)]
    have eJ : feedJ lo hi 1 r s.st = { s.st with late := s.st.late + 1 } := by unfold feedJ; simp only [hE]; rw [if_pos trivial, w3]
    have ef : fedI 10 s.f1 = s.f1 + 1 := by unfold fedI; rw [if_pos (.inr rfl)]; exact w2
    have e : feedT lo hi md 1 r s = { s with st := { s.st with late := s.st.late + 1 }, f1 := s.f1 + 1 } := by
      rw [feedT1_late hE, ef, eC, eJ]; rfl
    rw [eC]
    refine ⟨?_, trivial⟩
    rw [e]
    exact ⟨h.inv.late _, h.ha, h.hb, by simp only; omega, by simp only; omega, h.rL, h.rR, h.mx, h.my, by push_cast; omega, by push_cast; omega, by simp only; push_cast; omega, by simp only; push_cast; omega, by simp only; push_cast; omega⟩

theorem TOk.move0 {lo hi md : Int} {s : TSt} {n : Nat} (h : TOk lo hi md s n) (d : Int) (h0 : 0 ≤ d) (h1 : d ≤ 59) : TOk lo hi md (moveT lo hi 0 d s) (n + 1) := by
  have hm := h.more
  have q3 := h.a0; have q4 := hm.a1
  unfold moveT
  rw [if_pos rfl]
  have hi' := h.inv.move 0 (s.a0 + d) (by rw [if_pos rfl]; have := h.mx; omega)
  have ej : moveJ lo hi 0 (s.a0 + d) s.st = { s.st with x := s.a0 + d, b := s.st.b.filter (fun h => decide (tilI lo hi 1 h.r.t > s.a0 + d)) } := by unfold moveJ; exact if_pos rfl
  rw [ej] at hi' ⊢
  exact ⟨hi', hm.ha, fun g hg => by have := (List.mem_filter.1 hg).2; simpa using this, hm.lL, hm.lR, hm.rL, hm.rR, .inr rfl, hm.my, by simp only; push_cast; omega, hm.a1, hm.f0, hm.f1, hm.late⟩
theorem TOk.move1 {lo hi md : Int} {s : TSt} {n : Nat} (h : TOk lo hi md s n) (d : Int) (h0 : 0 ≤ d) (h1 : d ≤ 59) : TOk lo hi md (moveT lo hi 1 d s) (n + 1) := by
  have hm := h.more
  have q3 := h.a1
  unfold moveT
  rw [if_neg (by decide)]
  have hi' := h.inv.move 1 (s.a1 + d) (by rw [if_neg (by decide)]; have := h.my; omega)
  have ej : moveJ lo hi 1 (s.a1 + d) s.st = { s.st with y := s.a1 + d, a := s.st.a.filter (fun h => decide (tilI lo hi 0 h.r.t > s.a1 + d)) } := by unfold moveJ; exact if_neg (by decide)
  rw [ej] at hi' ⊢
  exact ⟨hi', fun g hg => by have := (List.mem_filter.1 hg).2; simpa using this, hm.hb, hm.lL, hm.lR, hm.rL, hm.rR, hm.mx, .inr rfl, hm.a0, by simp only; push_cast; omega, hm.f0, hm.f1, hm.late⟩
theorem TOk.perm {lo hi md : Int} {s : TSt} {n : Nat} (h : TOk lo hi md s n) {V : List Out} (hp : V.Perm s.V) : TOk lo hi md { s with V := V } n :=
  ⟨⟨h.inv.a, h.inv.b, hp.trans h.inv.v⟩, h.ha, h.hb, h.lL, h.lR, h.rL, h.rR, h.mx, h.my, h.a0, h.a1, h.f0, h.f1, h.late⟩

/-! ### counts, zeros kept -/
theorem CountsZ.add {m : List (Out × Value)} {l : List Out} (h : CountsZ m l) (x : Out) : CountsZ (putK m x (.int .i64 (((l.count x : Nat) : Int) + 1))) (x :: l) := by
  intro y
  rw [look_putK]
  by_cases hy : y = x
  · subst hy; simp
  · have hxy : ¬ x = y := fun e => hy e.symm
    simp only [if_neg hy, h y]
    simp [List.count_cons, hxy]
theorem CountsZ.less {m : List (Out × Value)} {l : List Out} (h : CountsZ m l) (x : Out) (hx : x ∈ l) : CountsZ (putK m x (.int .i64 (((l.count x : Nat) : Int) - 1))) (l.erase x) := by
  intro y
  rw [look_putK]
  by_cases hy : y = x
  · subst hy
    have := List.count_pos_iff.2 hx
    simp only [if_pos, Option.getD_some, List.count_erase_self]
    congr 1; omega
  · simp only [if_neg hy, h y, count_erase_other hy]
theorem CountsZ.perm {m : List (Out × Value)} {l l' : List Out} (h : CountsZ m l) (hp : l.Perm l') : CountsZ m l' := fun x => by rw [h x, hp.count_eq]
theorem flat_count (x : Out) : ∀ m : List (Out × Value), (m.map (·.1)).Nodup → (∀ p ∈ m, ∃ c : Nat, p.2 = .int .i64 c) → (flat m).count x = match mlook m x with | some (.int _ n) => n.toNat | _ => 0
  | [], _, _ => by simp [flat, mlook]
  | p :: r, hn, hp => by
    simp only [List.map_cons, List.nodup_cons] at hn
    obtain ⟨c, hc⟩ := hp p (by simp)
    have hr := flat_count x r hn.2 (fun q hq => hp q (by simp [hq]))
    have e1 : flat (p :: r) = List.replicate c p.1 ++ flat r := by simp [flat, flat1, hc]
    rw [e1, List.count_append, hr]
    by_cases hx : p.1 = x
    · have hno : mlook r x = none := mlook_none (fun q hq e => hn.1 (List.mem_map.2 ⟨q, hq, e.trans hx.symm⟩))
      rw [hno]
      simp [mlook, hx, hc]
    · rw [List.count_replicate]
      simp [mlook, List.find?_cons, hx]
theorem CountsZ.vals {m : List (Out × Value)} {l : List Out} (h : CountsZ m l) (hn : (m.map (·.1)).Nodup) : ∀ p ∈ m, p.2 = .int .i64 (l.count p.1 : Nat) := by
  intro p hp
  have := mlook_mem hn (x := p.1) (v := p.2) hp
  have hz := h p.1
  rw [this] at hz
  exact hz
theorem CountsZ.flat {m : List (Out × Value)} {l : List Out} (h : CountsZ m l) (hn : (m.map (·.1)).Nodup) : (flat m).Perm l := by
  rw [List.perm_iff_count]
  intro x
  rw [flat_count x m hn fun p hp => ⟨_, h.vals hn p hp⟩]
  have hz := h x
  cases hm : mlook m x with
  | none => rw [hm] at hz; simp at hz; simp; omega
  | some v => rw [hm] at hz; simp only [Option.getD_some] at hz; subst hz; simp
/-- What goes is there. -/
theorem valid_at : ∀ (cs : List (Out × Bool)) (V : List Out) (i : Nat) (hi : i < cs.length), ValidV V cs → (cs[i]).2 = true → (cs[i]).1 ∈ applyV V (cs.take i)
  | c :: cs, V, 0, _, h, hg => by simpa [applyV] using h.1 hg
  | c :: cs, V, i + 1, hi, h, hg => by
    rw [List.take_succ_cons, applyV_cons]
    exact valid_at cs _ i (by simpa using hi) h.2 hg
theorem applyV_snoc (V : List Out) (cs : List (Out × Bool)) (i : Nat) (hi : i < cs.length) : applyV V (cs.take (i + 1)) = stepV (applyV V (cs.take i)) cs[i] := by
  rw [List.take_succ_eq_append_getElem hi]
  unfold applyV
  rw [List.foldl_append]; rfl
/-- A gone one is a lone one. -/
theorem gone_lone {lo hi md : Int} {s : Nat} {r : Row} {st : JSt} : ∀ c ∈ feedC lo hi md s r st, c.2 = true → (c.1.hl && c.1.hr) = false := by
  intro c hc hg
  have hl : ∀ (s : Nat) (x : Row), ((loneS s x).hl && (loneS s x).hr) = false := fun s x => by unfold loneS; split <;> rfl
  unfold feedC at hc
  split at hc
  · unfold chgs at hc
    rcases List.mem_append.1 hc with hc | hc
    · obtain ⟨m, hm', hc⟩ := List.mem_flatMap.1 hc
      unfold chg1 at hc
      rcases List.mem_append.1 hc with hc | hc
      · split at hc
        · rw [List.mem_singleton] at hc; subst hc; exact hl _ _
        · cases hc
      · rw [List.mem_singleton] at hc; subst hc; cases hg
    · split at hc
      · rw [List.mem_singleton] at hc; subst hc; exact hl _ _
      · cases hc
  · cases hc
end Go.Proofs.YtmcgnnmffeojpaaGreatDoor
