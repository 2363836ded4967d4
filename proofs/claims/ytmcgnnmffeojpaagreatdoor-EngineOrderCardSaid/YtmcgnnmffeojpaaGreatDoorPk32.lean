/- The engine lets changes be: applies. -/
import Derived.Test.YtmcgnnmffeojpaaGreatDoorPk13
import Derived.Test.YtmcgnnmffeojpaaGreatDoorPk20
import Derived.Test.YtmcgnnmffeojpaaGreatDoorPk28
import Derived.Test.YtmcgnnmffeojpaaGreatDoorPk31
/- The engine in memory: a join, a bag, groups; what a change leaves of them. -/
namespace Go.Proofs.YtmcgnnmffeojpaaGreatDoor
open Go.RowKit Go.Plan

/-- A bag is what it was where its cells and its map are. -/
theorem BagIs.of' {M : Nat → Prop} {w w' : World} {B o : Nat} {D : Option Nat} {l : List Out} (h : BagIs w B o D l) (hx : ExtM M w w') (hc : ∀ q, (q = o ∨ q = o + 1) → w'.cell? ⟨B, q, none⟩ = w.cell? ⟨B, q, none⟩) (hf : ∀ q, w'.frozen? ⟨B, q, none⟩ = w.frozen? ⟨B, q, none⟩) (hD : ∀ d, D = some d → ¬ M d) : BagIs w' B o D l where
  c0 := (hc o (.inl rfl)).trans h.c0
  c1 := (hc (o + 1) (.inr rfl)).trans h.c1
  f0 := (hf o).trans h.f0
  f1 := (hf (o + 1)).trans h.f1
  ok := h.ok
  mp := by
    rcases h.mp with h | ⟨d, m, h1, h2, h3, h4⟩
    · exact .inl h
    · exact .inr ⟨d, m, h1, h2, h3.of hx (hD d h1), h4⟩
theorem GrpIs.of' {M : Nat → Prop} {w w' : World} {G o : Nat} {D : Option Nat} {ents : List Ent} (h : GrpIs w G o D ents) (hx : ExtM M w w') (hc : w'.cell? ⟨G, o, none⟩ = w.cell? ⟨G, o, none⟩) (hf : w'.frozen? ⟨G, o, none⟩ = w.frozen? ⟨G, o, none⟩) (hM : ∀ k, (D = some k ∨ ∃ e ∈ ents, fb e k) → ¬ M k) : GrpIs w' G o D ents where
  c0 := hc.trans h.c0
  f0 := hf.trans h.f0
  mp := by
    rcases h.mp with h | ⟨d, h1, h2, h3⟩
    · exact .inl h
    · exact .inr ⟨d, h1, h2, h3.of hx (hM d (.inl h1))⟩
  all e he := (h.all e he).keep fun k hk => hx.block k ((h.all e he).lt k hk) (hM k (.inr ⟨e, he, hk⟩))
  apart := h.apart
  away := h.away
  ok := h.ok

/-- An engine in the block E: its join in P, M, its sides' rows v0, v1; its bag's map D, its groups' DG, ents. The bag has V, the groups are what W comes to. -/
structure EIs (u : World) (E P M : Nat) (v0 v1 : Value) (D DG : Option Nat) (ents : List Ent) (lo hi md : Int) (st : JSt) (V W : List Out) (f0 f1 : Int) : Prop where
  c0 : u.cell? ⟨E, 0, none⟩ = some (.int .i64 lo)
  c1 : u.cell? ⟨E, 1, none⟩ = some (.int .i64 hi)
  c2 : u.cell? ⟨E, 2, none⟩ = some (.int .i64 md)
  c3 : u.cell? ⟨E, 3, none⟩ = some (.pointer (some ⟨P, 0, none⟩))
  bag : BagIs u E 4 D V
  grp : GrpIs u E 6 DG ents
  rep : RepAll ents W
  c7 : u.cell? ⟨E, 7, none⟩ = some (.int .i64 f0)
  c8 : u.cell? ⟨E, 8, none⟩ = some (.int .i64 f1)
  fz : ∀ q, u.frozen? ⟨E, q, none⟩ = false
  join : JIs u P M v0 v1 lo hi md st
  sJ : ∀ k, JFoot P M v0 v1 k → ¬ bagM E D k ∧ ¬ grpM E DG ents k
  sB : ∀ k, D = some k → ¬ grpM E DG ents k
  okA : ∀ h ∈ st.a, h.r.ok
  okB : ∀ h ∈ st.b, h.r.ok
def EFoot (E P M : Nat) (v0 v1 : Value) (D DG : Option Nat) (ents : List Ent) (k : Nat) : Prop := JFoot P M v0 v1 k ∨ bagM E D k ∨ grpM E DG ents k
section
variable {u u' : World} {E P M : Nat} {v0 v1 : Value} {D DG : Option Nat} {ents : List Ent} {lo hi md : Int} {st : JSt} {V W : List Out} {f0 f1 : Int}
theorem EIs.lt (h : EIs u E P M v0 v1 D DG ents lo hi md st V W f0 f1) : E < u.heap.size := lt_of_cell h.c0
theorem EIs.foot (h : EIs u E P M v0 v1 D DG ents lo hi md st V W f0 f1) (k : Nat) (hk : EFoot E P M v0 v1 D DG ents k) : k < u.heap.size := by
  rcases hk with hk | hk | hk
  · exact h.join.foot k hk
  · exact h.bag.foot k hk
  · exact h.grp.foot k hk
theorem EIs.keep {F : Nat → Prop} (h : EIs u E P M v0 v1 D DG ents lo hi md st V W f0 f1) (hx : ExtM F u u') (hF : ∀ k, EFoot E P M v0 v1 D DG ents k → ¬ F k) : EIs u' E P M v0 v1 D DG ents lo hi md st V W f0 f1 := by
  have hE : ¬ F E := hF E (.inr (.inl (.inl rfl)))
  have k := fun o => hx.cell (p := ⟨E, o, none⟩) h.lt hE
  have kf := fun o => hx.frozen (p := ⟨E, o, none⟩) h.lt hE
  exact ⟨(k _).trans h.c0, (k _).trans h.c1, (k _).trans h.c2, (k _).trans h.c3, h.bag.of hx hE (fun d hd => hF d (.inr (.inl (.inr hd)))), h.grp.of hx (fun k hk => hF k (.inr (.inr hk))), h.rep, (k _).trans h.c7, (k _).trans h.c8, fun q => (kf q).trans (h.fz q),
    h.join.extM hx (hF _ (.inl (.inl rfl))) (hF _ (.inl (.inr (.inl rfl)))) (fun k hk => hF k (.inl (.inr (.inr (.inl hk))))) (fun k hk => hF k (.inl (.inr (.inr (.inr hk))))), h.sJ, h.sB, h.okA, h.okB⟩
theorem EIs.ext (h : EIs u E P M v0 v1 D DG ents lo hi md st V W f0 f1) (hx : Ext u u') : EIs u' E P M v0 v1 D DG ents lo hi md st V W f0 f1 := h.keep hx (fun _ _ h => h)
end

/-- An engine whose blocks are Bs. -/
def EAt (u : World) (E : Nat) (Bs : Nat → Prop) (lo hi md : Int) (st : JSt) (V W : List Out) (f0 f1 : Int) : Prop :=
  ∃ P M v0 v1 D DG ents, EIs u E P M v0 v1 D DG ents lo hi md st V W f0 f1 ∧ Bs = EFoot E P M v0 v1 D DG ents
/-- What a call leaves of it. -/
def EUp (u u' : World) (E : Nat) (Bs : Nat → Prop) (lo hi md : Int) (st : JSt) (V W : List Out) (f0 f1 : Int) : Prop :=
  ExtM Bs u u' ∧ ∃ Bs', EAt u' E Bs' lo hi md st V W f0 f1 ∧ ∀ k, Bs' k → Bs k ∨ u.heap.size ≤ k
section
variable {u u' u'' : World} {E : Nat} {Bs : Nat → Prop} {lo hi md : Int} {st st' : JSt} {V W V' W' : List Out} {f0 f1 f0' f1' : Int}
theorem EAt.lt (h : EAt u E Bs lo hi md st V W f0 f1) (k : Nat) (hk : Bs k) : k < u.heap.size := by
  obtain ⟨P, M, v0, v1, D, DG, ents, h, rfl⟩ := h; exact h.foot k hk
theorem EAt.keep {F : Nat → Prop} (h : EAt u E Bs lo hi md st V W f0 f1) (hx : ExtM F u u') (hF : ∀ k, Bs k → ¬ F k) : EAt u' E Bs lo hi md st V W f0 f1 := by
  obtain ⟨P, M, v0, v1, D, DG, ents, h, rfl⟩ := h; exact ⟨P, M, v0, v1, D, DG, ents, h.keep hx hF, rfl⟩
theorem EAt.ext (h : EAt u E Bs lo hi md st V W f0 f1) (hx : Ext u u') : EAt u' E Bs lo hi md st V W f0 f1 := h.keep hx (fun _ _ h => h)
theorem EAt.mine (h : EAt u E Bs lo hi md st V W f0 f1) : Bs E := by
  obtain ⟨P, M, v0, v1, D, DG, ents, h, rfl⟩ := h; exact .inr (.inl (.inl rfl))
theorem EUp.same (h : EAt u E Bs lo hi md st V W f0 f1) (hx : Ext u u') : EUp u u' E Bs lo hi md st V W f0 f1 :=
  ⟨hx.mono (fun _ _ h => h.elim), Bs, h.ext hx, fun k hk => .inl hk⟩
theorem EUp.trans {u1 : World} {Bs1 : Nat → Prop} (h : ExtM Bs u u1) (hB : ∀ k, Bs1 k → Bs k ∨ u.heap.size ≤ k) (h2 : EUp u1 u' E Bs1 lo hi md st V W f0 f1) : EUp u u' E Bs lo hi md st V W f0 f1 := by
  obtain ⟨hx, Bs2, ha, hb⟩ := h2
  have hs := h.size
  refine ⟨h.fresh' hx (fun k hk e => (hB k e).resolve_right (by omega)), Bs2, ha, fun k hk => ?_⟩
  rcases hb k hk with e | e
  · exact hB k e
  · exact .inr (by omega)
theorem EUp.after (h : EUp u u' E Bs lo hi md st V W f0 f1) (hx : Ext u' u'') : EUp u u'' E Bs lo hi md st V W f0 f1 := by
  obtain ⟨j1, j2, j3, j4⟩ := h
  exact ⟨j1.fresh' hx (fun _ _ h => h.elim), j2, j3.ext hx, j4⟩
theorem EUp.before {u0 : World} (hx : Ext u u0) (h : EUp u0 u' E Bs lo hi md st V W f0 f1) : EUp u u' E Bs lo hi md st V W f0 f1 :=
  EUp.trans (hx.mono (fun _ _ h => h.elim)) (fun k hk => .inl hk) h

/-! ### a change -/
def stepV (V : List Out) (c : Out × Bool) : List Out := if c.2 then V.erase c.1 else c.1 :: V
theorem en_view (h : EAt u E Bs lo hi md st V W f0 f1) (x : Out) (g : Bool) (hok : x.ok) (hv : g = true → x ∈ V) (hl : V.length < 1000000) :
    Calls Tryz.prog 82 #[.pointer (some ⟨E, 4, none⟩), encC x g] u fun e u' => e = .returned .nilIface ∧ EUp u u' E Bs lo hi md st (stepV V (x, g)) W f0 f1 := by
  obtain ⟨P, M, v0, v1, D, DG, ents, h, rfl⟩ := h
  have fin : ∀ (u' : World) (D' : Option Nat) (V' : List Out), Grew u D D' → ExtM (bagM E D) u u' → BagIs u' E 4 D' V' → OnlyAt E 4 u u' → EUp u u' E (EFoot E P M v0 v1 D DG ents) lo hi md st V' W f0 f1 := fun u' D' V' hg hx hb ho => by
    have hgf := fun k hk => h.grp.foot k hk
    have hjf := fun k hk => h.join.foot k hk
    have hD' : ∀ k, bagM E D' k → bagM E D k ∨ u.heap.size ≤ k := fun k hk => by
      rcases hg with rfl | ⟨rfl, d, rfl, hd⟩
      · exact .inl hk
      · rcases hk with rfl | hk
        · exact .inl (.inl rfl)
        · obtain rfl := Option.some.inj hk; exact .inr hd
    refine ⟨hx.mono fun k _ hk => .inr (.inl hk), _, ⟨P, M, v0, v1, D', DG, ents, ?_, rfl⟩, fun k hk => ?_⟩
    · refine ⟨(ho.cell 0 (by decide) (by decide)).trans h.c0, (ho.cell 1 (by decide) (by decide)).trans h.c1, (ho.cell 2 (by decide) (by decide)).trans h.c2, (ho.cell 3 (by decide) (by decide)).trans h.c3, hb,
        h.grp.of' hx (ho.cell 6 (by decide) (by decide)) (ho.frz 6) (fun k hk hb => ?_), h.rep, (ho.cell 7 (by decide) (by decide)).trans h.c7, (ho.cell 8 (by decide) (by decide)).trans h.c8, fun q => (ho.frz q).trans (h.fz q),
        h.join.extM hx (h.sJ P (.inl rfl)).1 (h.sJ M (.inr (.inl rfl))).1 (fun k hk => (h.sJ k (.inr (.inr (.inl hk)))).1) (fun k hk => (h.sJ k (.inr (.inr (.inr hk)))).1), fun k hk => ⟨fun e => ?_, (h.sJ k hk).2⟩, fun k hk e => ?_, h.okA, h.okB⟩
      · rcases hb with rfl | hb
        · rcases hk with hk | ⟨e, he, hk⟩
          · rcases h.grp.mp with ⟨h1, -⟩ | ⟨d, h1, h2, -⟩
            · rw [h1] at hk; cases hk
            · rw [h1] at hk; exact h2 (Option.some.inj hk)
          · exact (h.grp.away e he _ hk).1 rfl
        · exact h.sB k hb (.inr hk)
      · rcases hD' k e with e | e
        · exact (h.sJ k hk).1 e
        · have := hjf k hk; omega
      · rcases hD' k (.inr hk) with e' | e'
        · rcases e' with rfl | e'
          · rcases hb.mp with ⟨h1, -⟩ | ⟨d, m, h1, h2, -⟩
            · rw [h1] at hk; cases hk
            · rw [h1] at hk; exact h2 (Option.some.inj hk)
          · exact h.sB k e' e
        · have := hgf k e; omega
    · rcases hk with hk | hk | hk
      · exact .inl (.inl hk)
      · rcases hD' k hk with e | e
        · exact .inl (.inr (.inl e))
        · exact .inr e
      · exact .inl (.inr (.inr hk))
  cases g with
  | false =>
    refine (bagAddO E 4 D V x u h.bag hok (by omega)).mono ?_
    rintro e u' ⟨he, D', hg, hx, hb, ho⟩
    exact ⟨he, fin u' D' _ hg hx hb ho⟩
  | true =>
    refine (bagLessO E 4 D V x u h.bag (hv rfl) (by omega)).mono ?_
    rintro e u' ⟨he, hx, hb, ho⟩
    exact ⟨he, fin u' D _ (.inl rfl) hx hb ho⟩
theorem en_grp (h : EAt u E Bs lo hi md st V W f0 f1) (x : Out) (g : Bool) (hok : x.ok) (hv : g = true → x ∈ W) (hl : W.length < 1000000) :
    Calls Tryz.prog 21 #[.pointer (some ⟨E, 6, none⟩), encC x g] u fun e u' => e = .returned .nilIface ∧ EUp u u' E Bs lo hi md st V (stepV W (x, g)) f0 f1 := by
  obtain ⟨P, M, v0, v1, D, DG, ents, h, rfl⟩ := h
  have fin : ∀ (u' : World) (DG' : Option Nat) (ents' : List Ent) (W' : List Out), GrpIs u' E 6 DG' ents' → RepAll ents' W' → Turned u u' E 6 DG DG' ents ents' → EUp u u' E (EFoot E P M v0 v1 D DG ents) lo hi md st V W' f0 f1 := fun u' DG' ents' W' hg hr ht => by
    have hbf := fun k hk => h.bag.foot k hk
    have hjf := fun k hk => h.join.foot k hk
    have ho := ht.only
    refine ⟨ht.ext.mono fun k _ hk => .inr (.inr hk), _, ⟨P, M, v0, v1, D, DG', ents', ?_, rfl⟩, fun k hk => ?_⟩
    · refine ⟨(ho.cell 0 (by decide)).trans h.c0, (ho.cell 1 (by decide)).trans h.c1, (ho.cell 2 (by decide)).trans h.c2, (ho.cell 3 (by decide)).trans h.c3,
        h.bag.of' ht.ext (fun q hq => ho.cell q (by omega)) ho.frz (fun d hd => h.sB d hd), hg, hr, (ho.cell 7 (by decide)).trans h.c7, (ho.cell 8 (by decide)).trans h.c8, fun q => (ho.frz q).trans (h.fz q),
        h.join.extM ht.ext (h.sJ P (.inl rfl)).2 (h.sJ M (.inr (.inl rfl))).2 (fun k hk => (h.sJ k (.inr (.inr (.inl hk)))).2) (fun k hk => (h.sJ k (.inr (.inr (.inr hk)))).2), fun k hk => ⟨(h.sJ k hk).1, fun e => ?_⟩, fun k hk e => ?_, h.okA, h.okB⟩
      · rcases ht.foot k e with e | e
        · exact (h.sJ k hk).2 e
        · have := hjf k hk; omega
      · rcases ht.foot k e with e | e
        · exact h.sB k hk e
        · have := hbf k (.inr hk); omega
    · rcases hk with hk | hk | hk
      · exact .inl (.inl hk)
      · exact .inl (.inr (.inl hk))
      · rcases ht.foot k hk with e | e
        · exact .inl (.inr (.inr e))
        · exact .inr e
  cases g with
  | false =>
    refine (grpAdd E 6 DG ents W x u h.grp h.rep hok hl).mono ?_
    rintro e u' ⟨he, D', e', g1, g2, g3⟩
    exact ⟨he, fin u' D' e' _ g1 g2 g3⟩
  | true =>
    refine (grpLess E 6 DG ents W x u h.grp h.rep (hv rfl) hok hl).mono ?_
    rintro e u' ⟨he, D', e', g1, g2, g3⟩
    exact ⟨he, fin u' D' e' _ g1 g2 g3⟩
/-- The view's size is no matter: all of it, in order; the groups. -/
theorem en_all (h : EAt u E Bs lo hi md st V W f0 f1) (hl : V.length < 1000000) :
    Calls Tryz.prog 30 #[.pointer (some ⟨E, 4, none⟩)] u (OutsV u (sortO V)) := by
  obtain ⟨P, M, v0, v1, D, DG, ents, h, rfl⟩ := h
  exact bagAll E 4 D V u h.bag hl
end
end Go.Proofs.YtmcgnnmffeojpaaGreatDoor
/- The law's own sameChanges. -/
namespace Go.Proofs.YtmcgnnmffeojpaaGreatDoor
open Go.RowKit Go.Plan

theorem crow_cells {w : World} {b : Nat} {v : Value} {L : List (Out × Bool)} (h : CRow w b v L) (x : Nat) (X : Out × Bool) (hx : L[x]? = some X) :
    ∃ g cap, v = .slice (some ⟨g, 0, none⟩) L.length cap ∧ g < w.heap.size ∧ ∀ c v, (chgL X)[c]? = some v → w.cell? ⟨g, x * 10 + c, none⟩ = some v := by
  obtain ⟨hlt, rfl⟩ := List.getElem?_eq_some_iff.1 hx
  obtain ⟨g, cap, rfl, hg, h0, -⟩ := own_cell (enc := chgL) chg_len h x 0 hlt (by omega)
  refine ⟨g, cap, rfl, hg, fun c v hv => ?_⟩
  have hc : c < 10 := by
    have := (List.getElem?_eq_some_iff.1 hv).1
    rwa [chg_len] at this
  obtain ⟨g', cap', e1, -, e2, -⟩ := own_cell (enc := chgL) chg_len h x c hlt hc
  simp only [Value.slice.injEq, Option.some.injEq, Addr.mk.injEq, and_true, true_and] at e1
  rw [e1.1]; exact e2.trans hv
theorem neq_chg (a : Out × Bool) (w : World) : (binOp .neq 72 (.agg #[.int .i64 a.1.key, .int .i64 a.1.l.k, .int .i64 a.1.l.t, .int .i64 a.1.l.v, .int .i64 a.1.r.k, .int .i64 a.1.r.t, .int .i64 a.1.r.v, .bool a.1.hl, .bool a.1.hr, .bool a.2]) (.agg #[.int .i64 a.1.key, .int .i64 a.1.l.k, .int .i64 a.1.l.t, .int .i64 a.1.l.v, .int .i64 a.1.r.k, .int .i64 a.1.r.t, .int .i64 a.1.r.v, .bool a.1.hl, .bool a.1.hr, .bool a.2])).run Tryz.prog w = .ok (.bool false) w := by
  obtain ⟨⟨a1, ⟨a2, a3, a4⟩, ⟨a5, a6, a7⟩, a8, a9⟩, a10⟩ := a
  go_simp

end Go.Proofs.YtmcgnnmffeojpaaGreatDoor
namespace Go.Proofs.YtmcgnnmffeojpaaGreatDoor
open Go.RowKit Go.Plan

theorem applyV_step (V : List Out) (c : Out × Bool) (cs : List (Out × Bool)) : applyV V (c :: cs) = applyV (stepV V c) cs := rfl
theorem stepV_len (V : List Out) (c : Out × Bool) : (stepV V c).length ≤ V.length + 1 := by
  unfold stepV
  split
  · exact Nat.le_trans List.length_erase_le (by omega)
  · simp
theorem BoxC.cellsC {w w' : World} {n : Nat} {x : Out} {g : Bool} {F : Nat → Prop} (h : BoxC w n x g) (hx : ExtM F w w') (hn : ¬ F n) : BoxC w' n x g := h.of hx hn

set_option maxRecDepth 100000 in
set_option maxHeartbeats 4000000 in
theorem applies_c {u : World} {E : Nat} {Bs : Nat → Prop} {lo hi md : Int} {st : JSt} {V : List Out} {f0 f1 : Int} (h : EAt u E Bs lo hi md st V V f0 f1) (b : Nat) (vo : Value) (cs : List (Out × Bool)) (hrow : CRow u b vo cs) (hsep : ∀ k, vo.ownBlock = some k → ¬ Bs k)
    (hok : ∀ c ∈ cs, c.1.ok) (hv : ValidV V cs) (hl : V.length + cs.length < 1000000) :
    Calls Tryz.prog 50 #[.pointer (some ⟨E, 0, none⟩), vo] u fun e u' => e = .returned (.tuple #[]) ∧ EUp u u' E Bs lo hi md st (applyV V cs) (applyV V cs) f0 f1 := by
  obtain ⟨p, cap, rfl, -⟩ := own_slice hrow
  have hrl := fun k hk => (own_lt hrow k hk).2
  go_enter Tryz.func50, Tryz.ntmps50
  go_wp2_with fail
  go_loopg [8] (cs.length + 1) (fun kx s8 wr => ∃ (i : Nat) (V' : List Out), s8 = .int .i64 i ∧ i ≤ cs.length ∧ cs.length - i ≤ kx ∧ EUp u wr E Bs lo hi md st V' V' f0 f1 ∧ ValidV V' (cs.drop i) ∧ applyV V' (cs.drop i) = applyV V cs ∧ V'.length ≤ V.length + i)
  case atStart => exact ⟨0, V, rfl, by omega, by omega, EUp.same h (ExtM.refl _), hv, rfl, by omega⟩
  case round =>
    obtain ⟨i, V', rfl, hi, hgk, hup, hv', hav, hlen⟩ := hrel
    have HV := Lib.hid hv'
    have HA := Lib.hid hav
    clear hv' hav
    by_cases hil : i < cs.length
    · have hdr : cs.drop i = cs[i] :: cs.drop (i + 1) := List.drop_eq_getElem_cons hil
      obtain ⟨hx, Bs1, hat, hB1⟩ := id hup
      have hrow1 : CRow wr b _ cs := own_ext hrow hx (fun k hk => hsep k hk)
      obtain ⟨g, rc, e1, hg, hc⟩ := crow_cells hrow1 i cs[i] (List.getElem?_eq_getElem hil)
      simp only [Value.slice.injEq, true_and] at e1
      obtain ⟨rfl, rfl⟩ := e1
      have hck := hok _ (List.getElem_mem hil)
      have HDR := Lib.hid hdr
      clear hdr
      generalize cs[i] = c at *
      obtain ⟨x, gg⟩ := c
      have y0 := hc 0 _ rfl
      have y1 := hc 1 _ rfl
      have y2 := hc 2 _ rfl
      have y3 := hc 3 _ rfl
      have y4 := hc 4 _ rfl
      have y5 := hc 5 _ rfl
      have y6 := hc 6 _ rfl
      have y7 := hc 7 _ rfl
      have y8 := hc 8 _ rfl
      have y9 := hc 9 _ rfl
      simp only [Nat.add_zero] at y0 y1 y2 y3 y4 y5 y6 y7 y8 y9
      have hvc := HV.out
      rw [HDR.out] at hvc
      have HVC := Lib.hid hvc
      clear hc hvc
      go_upto_region 3 with fail
      have bx := BoxC.mk' wr x gg 72
      have hxa : Ext wr (wr.alloc (.cells #[.int .i64 x.key, .int .i64 x.l.k, .int .i64 x.l.t, .int .i64 x.l.v, .int .i64 x.r.k, .int .i64 x.r.t, .int .i64 x.r.v, .bool x.hl, .bool x.hr, .bool gg] 72)) := (ExtM.refl _).alloc _
      have hat2 := hat.ext hxa
      have hnB : ¬ Bs1 wr.heap.size := fun e => by have := hat.lt _ e; omega
      have hup2 := EUp.after hup hxa
      clear y0 y1 y2 y3 y4 y5 y6 y7 y8 y9 hup hat hxa hrow1
      generalize wr.alloc (.cells #[.int .i64 x.key, .int .i64 x.l.k, .int .i64 x.l.t, .int .i64 x.l.v, .int .i64 x.r.k, .int .i64 x.r.t, .int .i64 x.r.v, .bool x.hl, .bool x.hr, .bool gg] 72) = w1 at *
      generalize wr.heap.size = n at *
      have hlE := hat2.lt _ hat2.mine
      have hln : n < w1.heap.size := cell_lt' bx.e0
      have hl1 : V'.length < 1000000 := by omega
      obtain ⟨e0, e1, e2, e3, e4, e5, e6, e7, e8, e9⟩ := id bx
      refine Plan.beginT Plan.Ext [4] 5 rfl (by kernel_rfl) ?_
      refine Plan.left_q 3 (by rfl) (by kernel_rfl) ?_; go_big_quiet_step (fail); refine wpQuiet_nil ?_
      refine Plan.left_one 0 (by kernel_rfl) (by rfl) (Plan.plain rfl fun K hK => ?_)
      go_wp2_with (fail)
      refine hK _ _ (ExtM.refl _) ?_
      clear hK K
      refine Plan.left_one 1 (by kernel_rfl) (by rfl) (Plan.plain rfl fun K hK => ?_)
      go_wp2_with (fail)
      refine hK _ _ (ExtM.refl _) ?_
      clear hK K
      refine Plan.left_q 2 (by rfl) (by kernel_rfl) ?_; go_big_quiet_step (fail); refine wpQuiet_nil ?_
      refine Plan.left_one 4 (by kernel_rfl) (by rfl) (Plan.last rfl (by kernel_rfl) fun K hK => ?_)
      go_wp2_with (fail)
      refine (en_view (hat2.ext (ExtM.refl _).drew) x gg hck (fun hg => HVC.out.1 hg) hl1).mono ?_
      rintro e w2 ⟨rfl, hu2⟩
      go_wp2_with (fail)
      refine Plan.left_done (by kernel_rfl) ?_
      have hu2' := EUp.before ((ExtM.refl w1).drew) hu2
      clear hu2 e0 e1 e2 e3 e4 e5 e6 e7 e8 e9 hlE
      obtain ⟨hx2, Bs2, hat3, hB2⟩ := id hu2'
      have bx2 := bx.of hx2 hnB
      have hlE := hat3.lt _ hat3.mine
      have hln2 : n < w2.heap.size := cell_lt' bx2.e0
      obtain ⟨e0, e1, e2, e3, e4, e5, e6, e7, e8, e9⟩ := id bx2
      go_wp2_with fail
      refine Plan.beginT Plan.Ext [4] 5 rfl (by kernel_rfl) ?_
      refine Plan.left_q 3 (by rfl) (by kernel_rfl) ?_; go_big_quiet_step (fail); refine wpQuiet_nil ?_
      refine Plan.left_one 0 (by kernel_rfl) (by rfl) (Plan.plain rfl fun K hK => ?_)
      go_wp2_with (fail)
      refine hK _ _ (ExtM.refl _) ?_
      clear hK K
      refine Plan.left_one 1 (by kernel_rfl) (by rfl) (Plan.plain rfl fun K hK => ?_)
      go_wp2_with (fail)
      refine hK _ _ (ExtM.refl _) ?_
      clear hK K
      refine Plan.left_q 2 (by rfl) (by kernel_rfl) ?_; go_big_quiet_step (fail); refine wpQuiet_nil ?_
      refine Plan.left_one 4 (by kernel_rfl) (by rfl) (Plan.last rfl (by kernel_rfl) fun K hK => ?_)
      go_wp2_with (fail)
      refine (en_grp (hat3.ext (ExtM.refl _).drew) x gg hck (fun hg => HVC.out.1 hg) hl1).mono ?_
      rintro e w4 ⟨rfl, hu4⟩
      go_wp2_with (fail)
      refine Plan.left_done (by kernel_rfl) ?_
      have hu4' := EUp.before ((ExtM.refl w2).drew) hu4
      have hfin := EUp.trans hup2.1 hB1 (EUp.trans hx2 hB2 hu4')
      have HF := Lib.hid hfin
      clear hu4 hfin hu4' hu2' e0 e1 e2 e3 e4 e5 e6 e7 e8 e9 hlE
      go_wp2_with fail
      go_roundg (cs.length - (i + 1))
      case measure => omega
      case rel =>
        have hav := HA.out
        rw [HDR.out, applyV_step] at hav
        refine ⟨i + 1, stepV V' (x, gg), by go_num, by omega, Nat.le_refl _, HF.out, HVC.out.2, hav, ?_⟩
        have := stepV_len V' (x, gg)
        omega
    · obtain rfl : i = cs.length := by omega
      have hz : decide (cs.length < cs.length) = false := by simp
      go_wp2_with fail
      go_end0
      have := HA.out
      rw [List.drop_length] at this
      refine ⟨rfl, ?_⟩
      rw [← this]
      exact hup
end Go.Proofs.YtmcgnnmffeojpaaGreatDoor
