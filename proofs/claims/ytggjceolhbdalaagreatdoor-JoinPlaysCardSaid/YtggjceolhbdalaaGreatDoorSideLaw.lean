/- The rows of a side and the reference's: plain law, no program in sight. -/
import Derived.Test.YtggjceolhbdalaaGreatDoorHDel2
namespace Go.Proofs.YtggjceolhbdalaaGreatDoor
open Go.RowKit Go.Plan

/-- The reference's row: when it came, too. -/
structure RHd where
  r : Row
  m : Int
  c : Int
def RHd.hd (x : RHd) : Hd := ⟨x.r, x.m⟩
def ltR (a b : RHd) : Prop := a.r.k < b.r.k ∨ (a.r.k = b.r.k ∧ (a.r.t < b.r.t ∨ (a.r.t = b.r.t ∧ a.c < b.c)))
theorem ltR_trans {a b c : RHd} (h : ltR a b) (k : ltR b c) : ltR a c := by unfold ltR at *; omega
theorem ltR_irrefl (a : RHd) : ¬ ltR a a := by unfold ltR; omega
theorem sortedR_unique : ∀ {xs ys : List RHd}, xs.Perm ys → xs.Pairwise ltR → ys.Pairwise ltR → xs = ys
  | [], ys, hp, _, _ => (List.nil_perm.1 hp).symm
  | x :: xs, ys, hp, hx, hy => by
    cases ys with
    | nil => exact absurd (List.perm_nil.1 hp) (by simp)
    | cons y ys =>
      have h1 := List.pairwise_cons.1 hx
      have h2 := List.pairwise_cons.1 hy
      have e : x = y := by
        have hxm : x ∈ y :: ys := hp.subset (List.mem_cons_self)
        have hym : y ∈ x :: xs := hp.symm.subset (List.mem_cons_self)
        rcases List.mem_cons.1 hxm with h | h
        · exact h
        · rcases List.mem_cons.1 hym with h' | h'
          · exact h'.symm
          · exact absurd (ltR_trans (h2.1 x h) (h1.1 y h')) (ltR_irrefl y)
      subst e
      rw [sortedR_unique (List.Perm.cons_inv hp) h1.2 h2.2]

/-- The side's rows are the reference's, in order. -/
structure RelS (hs : List Hd) (S L : List RHd) (came : Int) : Prop where
  perm : S.Perm L
  srt : S.Pairwise ltR
  eq : hs = S.map RHd.hd
  lt : ∀ x ∈ L, x.c ≤ came
theorem RelS.len {hs : List Hd} {S L : List RHd} {came : Int} (h : RelS hs S L came) : hs.length = L.length := by
  rw [h.eq, List.length_map, h.perm.length_eq]
theorem RelS.nil (came : Int) : RelS [] [] [] came := ⟨List.Perm.refl _, List.Pairwise.nil, rfl, fun x hx => by cases hx⟩
theorem RelS.sorted {hs : List Hd} {S L : List RHd} {came : Int} (h : RelS hs S L came) : SortedH hs := by
  unfold SortedH
  rw [h.eq, List.pairwise_map]
  refine h.srt.imp ?_
  intro a b hab
  unfold ltR at hab
  unfold leKT RHd.hd
  simp only
  omega
theorem RelS.add {hs : List Hd} {S L : List RHd} {came : Int} (h : RelS hs S L came) (r : Row) (m : Int) : ∃ S', RelS (addH hs ⟨r, m⟩) S' (L ++ [⟨r, m, came + 1⟩]) (came + 1) := by
  obtain ⟨h1, h2⟩ := fromN_parts h.sorted r.k (r.t + 1)
  have hn := fromN_le r.k (r.t + 1) hs
  unfold addH insH
  simp only
  generalize fromN r.k (r.t + 1) hs = n at *
  rw [h.eq, ← List.map_take] at h1
  rw [h.eq, ← List.map_drop] at h2
  have hp : (S.take n ++ S.drop n).Pairwise ltR := by rw [List.take_append_drop]; exact h.srt
  obtain ⟨p1, p2, p3⟩ := List.pairwise_append.1 hp
  have hc : ∀ a ∈ S, a.c ≤ came := fun a ha => h.lt a (h.perm.subset ha)
  refine ⟨S.take n ++ ⟨r, m, came + 1⟩ :: S.drop n, ?_, ?_, ?_, ?_⟩
  · refine List.Perm.trans List.perm_middle ?_
    rw [List.take_append_drop]
    exact (List.Perm.cons _ h.perm).trans (by simpa using (List.perm_append_comm (l₁ := [(⟨r, m, came + 1⟩ : RHd)]) (l₂ := L)))
  · refine List.pairwise_append.2 ⟨p1, List.pairwise_cons.2 ⟨fun a ha => ?_, p2⟩, fun a ha b hb => ?_⟩
    · have h3 := h2 a.hd (List.mem_map.2 ⟨a, ha, rfl⟩)
      have h4 : ¬ (aheadB r.k (r.t + 1) a.hd = true) := by rw [h3]; decide
      rw [aheadB_iff] at h4
      unfold RHd.hd at h4
      unfold ltR
      simp only at h4 ⊢
      omega
    · rcases List.mem_cons.1 hb with rfl | hb
      · have h3 := h1 a.hd (List.mem_map.2 ⟨a, ha, rfl⟩)
        rw [aheadB_iff] at h3
        have h4 := hc a (List.mem_of_mem_take ha)
        unfold RHd.hd at h3
        unfold ltR
        simp only at h3 ⊢
        omega
      · exact p3 a ha b hb
  · rw [h.eq, List.map_append, List.map_cons, List.map_take, List.map_drop]; rfl
  · intro x hx
    rcases List.mem_append.1 hx with hx | hx
    · have := h.lt x hx; omega
    · rw [List.mem_singleton.1 hx]; exact Int.le_refl _
theorem RelS.map {hs : List Hd} {S L : List RHd} {came : Int} (h : RelS hs S L came) (f : Hd → Hd) (g : RHd → RHd) (hg : ∀ x, (g x).r = x.r ∧ (g x).c = x.c ∧ (g x).hd = f x.hd) : RelS (hs.map f) (S.map g) (L.map g) came := by
  refine ⟨h.perm.map g, ?_, ?_, ?_⟩
  · rw [List.pairwise_map]
    refine h.srt.imp ?_
    intro a b hab
    unfold ltR at *
    rw [(hg a).1, (hg b).1, (hg a).2.1, (hg b).2.1]
    exact hab
  · rw [h.eq, List.map_map, List.map_map]
    exact List.map_congr_left (fun a _ => (hg a).2.2.symm)
  · intro x hx
    obtain ⟨y, hy, rfl⟩ := List.mem_map.1 hx
    rw [(hg y).2.1]
    exact h.lt y hy
theorem RelS.filter {hs : List Hd} {S L : List RHd} {came : Int} (h : RelS hs S L came) (p : Hd → Bool) : RelS (hs.filter p) (S.filter (fun x => p x.hd)) (L.filter (fun x => p x.hd)) came := by
  refine ⟨h.perm.filter _, h.srt.sublist List.filter_sublist, ?_, fun x hx => h.lt x (List.mem_filter.1 hx).1⟩
  rw [h.eq, List.filter_map]
  rfl
theorem RelS.unique {hs : List Hd} {S S' L : List RHd} {came : Int} (h : RelS hs S L came) (hp : S'.Perm L) (hs' : S'.Pairwise ltR) : S' = S := sortedR_unique (hp.trans h.perm.symm) hs' h.srt
end Go.Proofs.YtggjceolhbdalaaGreatDoor
