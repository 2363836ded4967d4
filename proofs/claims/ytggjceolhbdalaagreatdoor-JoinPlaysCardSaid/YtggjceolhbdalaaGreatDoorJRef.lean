/- The reference's join in memory, both sides; what a call leaves of it. -/
import Derived.Test.YtggjceolhbdalaaGreatDoorJSmall
import Derived.Test.YtggjceolhbdalaaGreatDoorRPut
namespace Go.Proofs.YtggjceolhbdalaaGreatDoor
open Go.RowKit Go.Plan

/-- The reference's join in the block J, its sides' rows r0, r1. -/
structure RIs (u : World) (J : Nat) (r0 r1 : Value) (lo hi md : Int) (st : RSt) : Prop where
  c0 : u.cell? ⟨J, 0, none⟩ = some (.int .i64 lo)
  c1 : u.cell? ⟨J, 1, none⟩ = some (.int .i64 hi)
  c2 : u.cell? ⟨J, 2, none⟩ = some (.int .i64 md)
  j0 : RJ u J 0 r0 st.a st.came
  j1 : RJ u J 1 r1 st.b st.came
  c5 : u.cell? ⟨J, 5, none⟩ = some (.int .i64 st.x)
  c6 : u.cell? ⟨J, 6, none⟩ = some (.int .i64 st.y)
  c7 : u.cell? ⟨J, 7, none⟩ = some (.int .i64 st.late)
  sep : ∀ k, r0.ownBlock = some k → r1.ownBlock ≠ some k
section
variable {u u' : World} {J : Nat} {r0 r1 : Value} {lo hi md : Int} {st : RSt}
theorem RIs.lt (h : RIs u J r0 r1 lo hi md st) : J < u.heap.size := lt_of_cell h.c0
theorem RIs.fz (h : RIs u J r0 r1 lo hi md st) (o : Nat) : u.frozen? ⟨J, o, none⟩ = false := h.j0.f3 o
theorem RIs.extM {F : Nat → Prop} (h : RIs u J r0 r1 lo hi md st) (hx : ExtM F u u') (hJ : ¬ F J) (h0 : ∀ k, r0.ownBlock = some k → ¬ F k) (h1 : ∀ k, r1.ownBlock = some k → ¬ F k) : RIs u' J r0 r1 lo hi md st := by
  have k := fun o => hx.cell (p := ⟨J, o, none⟩) h.lt hJ
  exact ⟨(k _).trans h.c0, (k _).trans h.c1, (k _).trans h.c2, h.j0.extM hx hJ h0, h.j1.extM hx hJ h1, (k _).trans h.c5, (k _).trans h.c6, (k _).trans h.c7, h.sep⟩
theorem RIs.ext (h : RIs u J r0 r1 lo hi md st) (hx : Ext u u') : RIs u' J r0 r1 lo hi md st := h.extM hx id (fun _ _ => id) (fun _ _ => id)
end

/-- Its blocks. -/
def RFoot (J : Nat) (r0 r1 : Value) (k : Nat) : Prop := k = J ∨ r0.ownBlock = some k ∨ r1.ownBlock = some k
theorem RIs.foot {u : World} {J : Nat} {r0 r1 : Value} {lo hi md : Int} {st : RSt} (h : RIs u J r0 r1 lo hi md st) (k : Nat) (hk : RFoot J r0 r1 k) : k < u.heap.size := by
  rcases hk with rfl | hk | hk
  · exact h.lt
  · exact (own_lt h.j0.row k hk).2
  · exact (own_lt h.j1.row k hk).2
def RAt (u : World) (J : Nat) (Cs : Nat → Prop) (lo hi md : Int) (st : RSt) : Prop := ∃ r0 r1, RIs u J r0 r1 lo hi md st ∧ Cs = RFoot J r0 r1
/-- What a call leaves of it. -/
def RUp (u u' : World) (J : Nat) (Cs : Nat → Prop) (lo hi md : Int) (st' : RSt) : Prop :=
  ExtM Cs u u' ∧ ∃ Cs', RAt u' J Cs' lo hi md st' ∧ ∀ k, Cs' k → Cs k ∨ u.heap.size ≤ k
theorem RAt.lt {u : World} {J : Nat} {Cs : Nat → Prop} {lo hi md : Int} {st : RSt} (h : RAt u J Cs lo hi md st) (k : Nat) (hk : Cs k) : k < u.heap.size := by
  obtain ⟨v0, v1, h, rfl⟩ := h; exact h.foot k hk
theorem RAt.keep {F : Nat → Prop} {u u' : World} {J : Nat} {Cs : Nat → Prop} {lo hi md : Int} {st : RSt} (h : RAt u J Cs lo hi md st) (hx : ExtM F u u') (hd : ∀ k, Cs k → ¬ F k) : RAt u' J Cs lo hi md st := by
  obtain ⟨v0, v1, h, rfl⟩ := h
  exact ⟨v0, v1, h.extM hx (hd _ (.inl rfl)) (fun k hk => hd k (.inr (.inl hk))) (fun k hk => hd k (.inr (.inr hk))), rfl⟩
theorem RAt.ext {u u' : World} {J : Nat} {Cs : Nat → Prop} {lo hi md : Int} {st : RSt} (h : RAt u J Cs lo hi md st) (hx : Ext u u') : RAt u' J Cs lo hi md st := h.keep hx (fun _ _ => id)
theorem RUp.same {u u' : World} {J : Nat} {Cs : Nat → Prop} {lo hi md : Int} {st : RSt} (h : RAt u J Cs lo hi md st) (hx : Ext u u') : RUp u u' J Cs lo hi md st :=
  ⟨hx.mono (fun _ _ h => h.elim), Cs, h.ext hx, fun k hk => .inl hk⟩
theorem RUp.trans {u u1 u2 : World} {J : Nat} {Cs : Nat → Prop} {lo hi md : Int} {st2 : RSt} (h : ExtM Cs u u1) {Cs1 : Nat → Prop} (hB : ∀ k, Cs1 k → Cs k ∨ u.heap.size ≤ k) (h2 : RUp u1 u2 J Cs1 lo hi md st2) : RUp u u2 J Cs lo hi md st2 := by
  obtain ⟨hx, Cs2, ha, hb⟩ := h2
  have hs := h.size
  refine ⟨h.fresh' hx (fun k hk e => (hB k e).resolve_right (by omega)), Cs2, ha, fun k hk => ?_⟩
  rcases hb k hk with e | e
  · exact hB k e
  · exact .inr (by omega)

theorem RJ.other {u u' : World} {J : Nat} {s : Nat} {v : Value} {L : List RHd} {came came' : Int} (h : RJ u J s v L came) (hx : ExtM (fun k => k = J) u u') (hc : u'.cell? ⟨J, 3 + s, none⟩ = u.cell? ⟨J, 3 + s, none⟩) (h8 : u'.cell? ⟨J, 8, none⟩ = some (.int .i64 came')) (hf : ∀ o, u'.frozen? ⟨J, o, none⟩ = false) : RJ u' J s v L came' :=
  ⟨h.hs, hc.trans h.c3, h8, hf, h.row.ext hx (fun k hk e => h.own (e ▸ hk)), h.own⟩

/-- One of the sides has turned. -/
theorem RIs.up0 {u u' : World} {J : Nat} {r0 r1 : Value} {lo hi md : Int} {st : RSt} {l : List RHd} {came : Int} (h : RIs u J r0 r1 lo hi md st) (hu : RJUp u u' J 0 r0 l came) : RUp u u' J (RFoot J r0 r1) lo hi md { st with a := l, came := came } := by
  obtain ⟨⟨v', hS, ho⟩, hx, hc⟩ := hu
  refine ⟨hx.mono (fun k _ hk => .inl hk), _, ⟨v', r1, ⟨(hc 0 (by decide) (by decide)).trans h.c0, (hc 1 (by decide) (by decide)).trans h.c1, (hc 2 (by decide) (by decide)).trans h.c2, hS, h.j1.other hx (hc 4 (by decide) (by decide)) hS.c8 hS.f3, (hc 5 (by decide) (by decide)).trans h.c5, (hc 6 (by decide) (by decide)).trans h.c6, (hc 7 (by decide) (by decide)).trans h.c7, ?_⟩, rfl⟩, fun k hk => ?_⟩
  · intro k hk e
    rcases ho with ho | ⟨k', ho, hn⟩
    · exact h.sep k (ho ▸ hk) e
    · rw [ho] at hk
      have := Option.some.inj hk
      have := (own_lt h.j1.row k e).2
      omega
  · rcases hk with hk | hk | hk
    · exact .inl (.inl hk)
    · rcases ho with ho | ⟨k', ho, hn⟩
      · exact .inl (.inr (.inl (ho ▸ hk)))
      · rw [ho] at hk
        have := Option.some.inj hk
        exact .inr (by omega)
    · exact .inl (.inr (.inr hk))
theorem RIs.up1 {u u' : World} {J : Nat} {r0 r1 : Value} {lo hi md : Int} {st : RSt} {l : List RHd} {came : Int} (h : RIs u J r0 r1 lo hi md st) (hu : RJUp u u' J 1 r1 l came) : RUp u u' J (RFoot J r0 r1) lo hi md { st with b := l, came := came } := by
  obtain ⟨⟨v', hS, ho⟩, hx, hc⟩ := hu
  refine ⟨hx.mono (fun k _ hk => .inl hk), _, ⟨r0, v', ⟨(hc 0 (by decide) (by decide)).trans h.c0, (hc 1 (by decide) (by decide)).trans h.c1, (hc 2 (by decide) (by decide)).trans h.c2, h.j0.other hx (hc 3 (by decide) (by decide)) hS.c8 hS.f3, hS, (hc 5 (by decide) (by decide)).trans h.c5, (hc 6 (by decide) (by decide)).trans h.c6, (hc 7 (by decide) (by decide)).trans h.c7, ?_⟩, rfl⟩, fun k hk => ?_⟩
  · intro k hk e
    rcases ho with ho | ⟨k', ho, hn⟩
    · exact h.sep k hk (ho ▸ e)
    · rw [ho] at e
      have := Option.some.inj e
      have := (own_lt h.j0.row k hk).2
      omega
  · rcases hk with hk | hk | hk
    · exact .inl (.inl hk)
    · exact .inl (.inr (.inl hk))
    · rcases ho with ho | ⟨k', ho, hn⟩
      · exact .inl (.inr (.inr (ho ▸ hk)))
      · rw [ho] at hk
        have := Option.some.inj hk
        exact .inr (by omega)

/-- A row has met one more. -/
def RSt.setA (st : RSt) (L : List RHd) : RSt := { st with a := L }
def RSt.setB (st : RSt) (L : List RHd) : RSt := { st with b := L }
theorem RIs.setM0 {u : World} {J g n cap : Nat} {r1 : Value} {lo hi md : Int} {st : RSt} (h : RIs u J (.slice (some ⟨g, 0, none⟩) n cap) r1 lo hi md st) (j : Nat) (x : RHd) (hj : st.a[j]? = some x) (m : Int) :
    RIs (u.setCell ⟨g, j * 5 + 3, none⟩ (.int .i64 m)) J (.slice (some ⟨g, 0, none⟩) n cap) r1 lo hi md (st.setA (st.a.set j ⟨x.r, m, x.c⟩)) ∧ ExtM (fun k => k = g) u (u.setCell ⟨g, j * 5 + 3, none⟩ (.int .i64 m)) := by
  have hx : ExtM (fun k => k = g) u (u.setCell ⟨g, j * 5 + 3, none⟩ (.int .i64 m)) := ExtM.setCell (M := fun k => k = g) (ExtM.refl u) (p := ⟨g, j * 5 + 3, none⟩) (.inr rfl) _
  have hgJ : ¬ J = g := fun e => h.j0.own (by rw [e]; rfl)
  have k := fun o => hx.cell (p := ⟨J, o, none⟩) h.lt hgJ
  refine ⟨⟨(k _).trans h.c0, (k _).trans h.c1, (k _).trans h.c2, ⟨h.j0.hs, (k _).trans h.j0.c3, (k _).trans h.j0.c8, fun o => (hx.frozen (p := ⟨J, o, none⟩) h.lt hgJ).trans (h.j0.f3 o), h.j0.row.setM j x hj m, h.j0.own⟩, h.j1.extM hx hgJ (fun q hq e => h.sep g rfl (e ▸ hq)), (k _).trans h.c5, (k _).trans h.c6, (k _).trans h.c7, h.sep⟩, hx⟩
theorem RIs.setM1 {u : World} {J g n cap : Nat} {r0 : Value} {lo hi md : Int} {st : RSt} (h : RIs u J r0 (.slice (some ⟨g, 0, none⟩) n cap) lo hi md st) (j : Nat) (x : RHd) (hj : st.b[j]? = some x) (m : Int) :
    RIs (u.setCell ⟨g, j * 5 + 3, none⟩ (.int .i64 m)) J r0 (.slice (some ⟨g, 0, none⟩) n cap) lo hi md (st.setB (st.b.set j ⟨x.r, m, x.c⟩)) ∧ ExtM (fun k => k = g) u (u.setCell ⟨g, j * 5 + 3, none⟩ (.int .i64 m)) := by
  have hx : ExtM (fun k => k = g) u (u.setCell ⟨g, j * 5 + 3, none⟩ (.int .i64 m)) := ExtM.setCell (M := fun k => k = g) (ExtM.refl u) (p := ⟨g, j * 5 + 3, none⟩) (.inr rfl) _
  have hgJ : ¬ J = g := fun e => h.j1.own (by rw [e]; rfl)
  have k := fun o => hx.cell (p := ⟨J, o, none⟩) h.lt hgJ
  refine ⟨⟨(k _).trans h.c0, (k _).trans h.c1, (k _).trans h.c2, h.j0.extM hx hgJ (fun q hq e => h.sep q hq (by rw [e]; rfl)), ⟨h.j1.hs, (k _).trans h.j1.c3, (k _).trans h.j1.c8, fun o => (hx.frozen (p := ⟨J, o, none⟩) h.lt hgJ).trans (h.j1.f3 o), h.j1.row.setM j x hj m, h.j1.own⟩, (k _).trans h.c5, (k _).trans h.c6, (k _).trans h.c7, h.sep⟩, hx⟩
theorem RIs.late {u : World} {J : Nat} {r0 r1 : Value} {lo hi md : Int} {st : RSt} (h : RIs u J r0 r1 lo hi md st) (x : Int) : RIs (u.setCell ⟨J, 7, none⟩ (.int .i64 x)) J r0 r1 lo hi md { st with late := x } ∧ ExtM (fun k => k = J) u (u.setCell ⟨J, 7, none⟩ (.int .i64 x)) := by
  have hx : ExtM (fun k => k = J) u (u.setCell ⟨J, 7, none⟩ (.int .i64 x)) := ExtM.setCell (M := fun k => k = J) (ExtM.refl u) (p := ⟨J, 7, none⟩) (.inr rfl) _
  have hc : ∀ o, o ≠ 7 → (u.setCell ⟨J, 7, none⟩ (.int .i64 x)).cell? ⟨J, o, none⟩ = u.cell? ⟨J, o, none⟩ := fun o ho => World.cell?_setCell_other _ _ _ _ (by intro e; simp only [Addr.mk.injEq, and_true, true_and] at e; omega)
  have hf : ∀ o, (u.setCell ⟨J, 7, none⟩ (.int .i64 x)).frozen? ⟨J, o, none⟩ = false := fun o => (World.frozen?_setCell _ _ _ _).trans (h.fz o)
  exact ⟨⟨(hc 0 (by decide)).trans h.c0, (hc 1 (by decide)).trans h.c1, (hc 2 (by decide)).trans h.c2, h.j0.other hx (hc 3 (by decide)) ((hc 8 (by decide)).trans h.j0.c8) hf, h.j1.other hx (hc 4 (by decide)) ((hc 8 (by decide)).trans h.j0.c8) hf, (hc 5 (by decide)).trans h.c5, (hc 6 (by decide)).trans h.c6, World.cell?_setCell_same _ _ _ h.c7, h.sep⟩, hx⟩
end Go.Proofs.YtggjceolhbdalaaGreatDoor
