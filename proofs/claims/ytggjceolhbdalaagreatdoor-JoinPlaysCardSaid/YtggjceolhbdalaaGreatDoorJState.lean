/- The program's join in memory; what its small functions say. -/
import Derived.Test.YtggjceolhbdalaaGreatDoorJLaw
import Derived.Test.YtggjceolhbdalaaGreatDoorMarkJ
import Derived.Test.YtggjceolhbdalaaGreatDoorSPc
import Derived.Test.YtggjceolhbdalaaGreatDoorRow2
namespace Go.Proofs.YtggjceolhbdalaaGreatDoor
open Go.RowKit Go.Plan

/-- A join in the block P, its marks in M, its sides' rows v0, v1. -/
structure JIs (u : World) (P M : Nat) (v0 v1 : Value) (lo hi md : Int) (st : JSt) : Prop where
  c0 : u.cell? ⟨P, 0, none⟩ = some (.int .i64 lo)
  c1 : u.cell? ⟨P, 1, none⟩ = some (.int .i64 hi)
  c2 : u.cell? ⟨P, 2, none⟩ = some (.int .i64 md)
  s0 : SideIs u P 3 v0 st.a
  s1 : SideIs u P 4 v1 st.b
  c5 : u.cell? ⟨P, 5, none⟩ = some (.pointer (some ⟨M, 0, none⟩))
  c6 : u.cell? ⟨P, 6, none⟩ = some (.int .i64 st.late)
  f6 : u.frozen? ⟨P, 6, none⟩ = false
  mks : Mk u M st.x st.y
  ne : P ≠ M
  m0 : v0.ownBlock ≠ some M
  m1 : v1.ownBlock ≠ some M
  sep : ∀ k, v0.ownBlock = some k → v1.ownBlock ≠ some k
theorem JIs.lt {u : World} {P M : Nat} {v0 v1 : Value} {lo hi md : Int} {st : JSt} (h : JIs u P M v0 v1 lo hi md st) : P < u.heap.size := lt_of_cell h.c0
theorem Mk.extM {F : Nat → Prop} {w w' : World} {B : Nat} {x y : Int} (h : Mk w B x y) (hx : ExtM F w w') (hB : ¬ F B) : Mk w' B x y :=
  ⟨(hx.cell (p := ⟨B, 0, none⟩) h.lt hB).trans h.c0, (hx.cell (p := ⟨B, 1, none⟩) h.lt hB).trans h.c1, (hx.frozen (p := ⟨B, 0, none⟩) h.lt hB).trans h.f0, (hx.frozen (p := ⟨B, 1, none⟩) h.lt hB).trans h.f1⟩
theorem JIs.extM {F : Nat → Prop} {u u' : World} {P M : Nat} {v0 v1 : Value} {lo hi md : Int} {st : JSt} (h : JIs u P M v0 v1 lo hi md st) (hx : ExtM F u u') (hP : ¬ F P) (hM : ¬ F M) (h0 : ∀ k, v0.ownBlock = some k → ¬ F k) (h1 : ∀ k, v1.ownBlock = some k → ¬ F k) : JIs u' P M v0 v1 lo hi md st := by
  have k := fun o => hx.cell (p := ⟨P, o, none⟩) h.lt hP
  exact ⟨(k _).trans h.c0, (k _).trans h.c1, (k _).trans h.c2, h.s0.extM hx hP h0, h.s1.extM hx hP h1, (k _).trans h.c5, (k _).trans h.c6, (hx.frozen (p := ⟨P, 6, none⟩) h.lt hP).trans h.f6, h.mks.extM hx hM, h.ne, h.m0, h.m1, h.sep⟩
theorem JIs.ext {u u' : World} {P M : Nat} {v0 v1 : Value} {lo hi md : Int} {st : JSt} (h : JIs u P M v0 v1 lo hi md st) (hx : Ext u u') : JIs u' P M v0 v1 lo hi md st :=
  h.extM hx id id (fun _ _ => id) (fun _ _ => id)

/-- The blocks of a join. -/
def JFoot (P M : Nat) (v0 v1 : Value) (k : Nat) : Prop := k = P ∨ k = M ∨ v0.ownBlock = some k ∨ v1.ownBlock = some k
theorem JIs.foot {u : World} {P M : Nat} {v0 v1 : Value} {lo hi md : Int} {st : JSt} (h : JIs u P M v0 v1 lo hi md st) (k : Nat) (hk : JFoot P M v0 v1 k) : k < u.heap.size := by
  rcases hk with rfl | rfl | hk | hk
  · exact h.lt
  · exact h.mks.lt
  · exact (own_lt h.s0.row k hk).2
  · exact (own_lt h.s1.row k hk).2
/-- A join whose blocks are Bs. -/
def JAt (u : World) (P M : Nat) (Bs : Nat → Prop) (lo hi md : Int) (st : JSt) : Prop := ∃ v0 v1, JIs u P M v0 v1 lo hi md st ∧ Bs = JFoot P M v0 v1
/-- What a call leaves of it. -/
def JUp (u u' : World) (P M : Nat) (Bs : Nat → Prop) (lo hi md : Int) (st' : JSt) : Prop :=
  ExtM Bs u u' ∧ ∃ Bs', JAt u' P M Bs' lo hi md st' ∧ ∀ k, Bs' k → Bs k ∨ u.heap.size ≤ k
theorem JAt.lt {u : World} {P M : Nat} {Bs : Nat → Prop} {lo hi md : Int} {st : JSt} (h : JAt u P M Bs lo hi md st) (k : Nat) (hk : Bs k) : k < u.heap.size := by
  obtain ⟨v0, v1, h, rfl⟩ := h; exact h.foot k hk
theorem JAt.keep {F : Nat → Prop} {u u' : World} {P M : Nat} {Bs : Nat → Prop} {lo hi md : Int} {st : JSt} (h : JAt u P M Bs lo hi md st) (hx : ExtM F u u') (hd : ∀ k, Bs k → ¬ F k) : JAt u' P M Bs lo hi md st := by
  obtain ⟨v0, v1, h, rfl⟩ := h
  exact ⟨v0, v1, h.extM hx (hd _ (.inl rfl)) (hd _ (.inr (.inl rfl))) (fun k hk => hd k (.inr (.inr (.inl hk)))) (fun k hk => hd k (.inr (.inr (.inr hk)))), rfl⟩
theorem JAt.ext {u u' : World} {P M : Nat} {Bs : Nat → Prop} {lo hi md : Int} {st : JSt} (h : JAt u P M Bs lo hi md st) (hx : Ext u u') : JAt u' P M Bs lo hi md st := h.keep hx (fun _ _ => id)
theorem JUp.same {u u' : World} {P M : Nat} {Bs : Nat → Prop} {lo hi md : Int} {st : JSt} (h : JAt u P M Bs lo hi md st) (hx : Ext u u') : JUp u u' P M Bs lo hi md st :=
  ⟨hx.mono (fun _ _ h => h.elim), Bs, h.ext hx, fun k hk => .inl hk⟩

/-- One of the sides has turned. -/
theorem JIs.up0 {u u' : World} {P M : Nat} {v0 v1 : Value} {lo hi md : Int} {st : JSt} {l : List Hd} (h : JIs u P M v0 v1 lo hi md st) (hu : SideUp u u' P 3 v0 l) : JUp u u' P M (JFoot P M v0 v1) lo hi md { st with a := l } := by
  obtain ⟨⟨v', hS, ho⟩, hx, hc, hf⟩ := hu
  have lM := h.mks.lt
  have lP := h.lt
  refine ⟨hx.mono (fun k _ hk => hk.elim .inl (fun hk => .inr (.inr (.inl hk)))), _, ⟨v', v1, ⟨(hc 0 (by decide)).trans h.c0, (hc 1 (by decide)).trans h.c1, (hc 2 (by decide)).trans h.c2, hS, ?_, (hc 5 (by decide)).trans h.c5, (hc 6 (by decide)).trans h.c6, (hf 6).trans h.f6, h.mks.extM hx (fun e => e.elim (fun e => h.ne e.symm) h.m0), h.ne, ?_, h.m1, ?_⟩, rfl⟩, fun k hk => ?_⟩
  · exact ⟨(hc 4 (by decide)).trans h.s1.c0, (hf 4).trans h.s1.fz, h.s1.row.ext hx (fun k hk e => e.elim (fun e => h.s1.own (e ▸ hk)) (fun e => h.sep k e hk)), h.s1.srt, h.s1.own⟩
  · rcases ho with ho | ⟨k', ho, hn⟩
    · rw [ho]; exact h.m0
    · rw [ho]; intro e; have := Option.some.inj e; omega
  · intro k hk e
    rcases ho with ho | ⟨k', ho, hn⟩
    · exact h.sep k (ho ▸ hk) e
    · rw [ho] at hk
      have := Option.some.inj hk
      have := (own_lt h.s1.row k e).2
      omega
  · rcases hk with hk | hk | hk | hk
    · exact .inl (.inl hk)
    · exact .inl (.inr (.inl hk))
    · rcases ho with ho | ⟨k', ho, hn⟩
      · exact .inl (.inr (.inr (.inl (ho ▸ hk))))
      · rw [ho] at hk
        have := Option.some.inj hk
        exact .inr (by omega)
    · exact .inl (.inr (.inr (.inr hk)))
theorem JIs.up1 {u u' : World} {P M : Nat} {v0 v1 : Value} {lo hi md : Int} {st : JSt} {l : List Hd} (h : JIs u P M v0 v1 lo hi md st) (hu : SideUp u u' P 4 v1 l) : JUp u u' P M (JFoot P M v0 v1) lo hi md { st with b := l } := by
  obtain ⟨⟨v', hS, ho⟩, hx, hc, hf⟩ := hu
  have lM := h.mks.lt
  have lP := h.lt
  refine ⟨hx.mono (fun k _ hk => hk.elim .inl (fun hk => .inr (.inr (.inr hk)))), _, ⟨v0, v', ⟨(hc 0 (by decide)).trans h.c0, (hc 1 (by decide)).trans h.c1, (hc 2 (by decide)).trans h.c2, ?_, hS, (hc 5 (by decide)).trans h.c5, (hc 6 (by decide)).trans h.c6, (hf 6).trans h.f6, h.mks.extM hx (fun e => e.elim (fun e => h.ne e.symm) h.m1), h.ne, h.m0, ?_, ?_⟩, rfl⟩, fun k hk => ?_⟩
  · exact ⟨(hc 3 (by decide)).trans h.s0.c0, (hf 3).trans h.s0.fz, h.s0.row.ext hx (fun k hk e => e.elim (fun e => h.s0.own (e ▸ hk)) (fun e => h.sep k hk e)), h.s0.srt, h.s0.own⟩
  · rcases ho with ho | ⟨k', ho, hn⟩
    · rw [ho]; exact h.m1
    · rw [ho]; intro e; have := Option.some.inj e; omega
  · intro k hk e
    rcases ho with ho | ⟨k', ho, hn⟩
    · exact h.sep k hk (ho ▸ e)
    · rw [ho] at e
      have := Option.some.inj e
      have := (own_lt h.s0.row k hk).2
      omega
  · rcases hk with hk | hk | hk | hk
    · exact .inl (.inl hk)
    · exact .inl (.inr (.inl hk))
    · exact .inl (.inr (.inr (.inl hk)))
    · rcases ho with ho | ⟨k', ho, hn⟩
      · exact .inl (.inr (.inr (.inr (ho ▸ hk))))
      · rw [ho] at hk
        have := Option.some.inj hk
        exact .inr (by omega)
theorem _root_.Go.Plan.ExtM.fresh' {M N : Nat → Prop} {a b c : World} (h1 : ExtM M a b) (h2 : ExtM N b c) (hN : ∀ k, k < a.heap.size → N k → M k) : ExtM M a c :=
  ⟨h2.os.trans h1.os, h2.tape.trans h1.tape, h2.output.trans h1.output, Nat.le_trans h1.size h2.size, fun k hk hn => (h2.block k (Nat.lt_of_lt_of_le hk h1.size) (fun e => hn (hN k hk e))).trans (h1.block k hk hn)⟩
theorem JUp.trans {u u1 u2 : World} {P M : Nat} {Bs : Nat → Prop} {lo hi md : Int} {st1 st2 : JSt} (h : ExtM Bs u u1) {Bs1 : Nat → Prop} (hB : ∀ k, Bs1 k → Bs k ∨ u.heap.size ≤ k) (h2 : JUp u1 u2 P M Bs1 lo hi md st2) : JUp u u2 P M Bs lo hi md st2 := by
  obtain ⟨hx, Bs2, ha, hb⟩ := h2
  have hs := h.size
  refine ⟨h.fresh' hx (fun k hk e => (hB k e).resolve_right (by omega)), Bs2, ha, fun k hk => ?_⟩
  rcases hb k hk with e | e
  · exact hB k e
  · exact .inr (by omega)
end Go.Proofs.YtggjceolhbdalaaGreatDoor
