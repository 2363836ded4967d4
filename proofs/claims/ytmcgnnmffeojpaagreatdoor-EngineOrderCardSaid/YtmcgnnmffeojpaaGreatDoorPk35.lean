/- The engine's Feed. -/
import Derived.Test.YtmcgnnmffeojpaaGreatDoorPk29
import Derived.Test.YtmcgnnmffeojpaaGreatDoorPk32
import Derived.Test.YtmcgnnmffeojpaaGreatDoorPk33
import Derived.Test.YtmcgnnmffeojpaaGreatDoorPk34
namespace Go.Plan
/-- Nothing is known but that block B has not turned. -/
theorem ExtK.of_M {M : Nat → Prop} {B : Nat} {w w' : World} (h : ExtM M w w') (hB : ¬ M B) : ExtK B w w' := ExtM.mono h (fun _ _ hk e => hB (e ▸ hk))
/-- Nothing is known but that the blocks B and C have not turned. -/
def ExtL (B C : Nat) (w w' : World) : Prop := ExtM (fun k => ¬ (k = B ∨ k = C)) w w'
theorem ExtL.refl {B C : Nat} (w : World) : ExtL B C w w := ExtM.refl w
theorem ExtL.trans {B C : Nat} (a b c : World) (h : ExtL B C a b) (k : ExtL B C b c) : ExtL B C a c := ExtM.trans _ _ _ h k
instance {B C : Nat} : Std.Refl (ExtL B C) := ⟨ExtL.refl⟩
instance {B C : Nat} : Trans (ExtL B C) (ExtL B C) (ExtL B C) := ⟨fun h k => ExtL.trans _ _ _ h k⟩
theorem ExtL.of_M {M : Nat → Prop} {B C : Nat} {w w' : World} (hB : ¬ M B) (hC : ¬ M C) (h : ExtM M w w') : ExtL B C w w' := ExtM.mono h (fun _ _ hk e => e.elim (fun e => hB (e ▸ hk)) (fun e => hC (e ▸ hk)))
theorem ExtL.drew {B C : Nat} {a w : World} (h : ExtL B C a w) : ExtL B C a w.drew := ExtM.drew h
theorem ExtL.size {B C : Nat} {w w' : World} (h : ExtL B C w w') : w.heap.size ≤ w'.heap.size := ExtM.size h
theorem ExtL.cells {B C : Nat} {w w' : World} (h : ExtL B C w w') (b o : Nat) (hb : b = B ∨ b = C) (hl : b < w.heap.size) : w'.cell? ⟨b, o, none⟩ = w.cell? ⟨b, o, none⟩ ∧ w'.frozen? ⟨b, o, none⟩ = w.frozen? ⟨b, o, none⟩ :=
  ⟨ExtM.cell h (p := ⟨b, o, none⟩) hl (fun e => e hb), ExtM.frozen h (p := ⟨b, o, none⟩) hl (fun e => e hb)⟩
theorem ExtL.rules {B C : Nat} {w w' : World} (_ : ExtL B C w w') : True ∧ True ∧ True := ⟨trivial, trivial, trivial⟩
@[go_sem] theorem cell?_extL (B C : Nat) (w p : World) (o : Nat) (hb : B < w.heap.size) : (Plan.ext (ExtL B C) w p).cell? ⟨B, o, none⟩ = w.cell? ⟨B, o, none⟩ := ((ext_E ExtL.refl w p).cells B o (.inl rfl) hb).1
@[go_sem] theorem cell?_extL' (B C : Nat) (w p : World) (o : Nat) (hb : C < w.heap.size) : (Plan.ext (ExtL B C) w p).cell? ⟨C, o, none⟩ = w.cell? ⟨C, o, none⟩ := ((ext_E ExtL.refl w p).cells C o (.inr rfl) hb).1
@[go_sem] theorem cell?_extL_drew (B C : Nat) (w p : World) (o : Nat) (hb : B < w.heap.size) : (Plan.ext (ExtL B C) w.drew p).cell? ⟨B, o, none⟩ = w.cell? ⟨B, o, none⟩ := cell?_extL B C w.drew p o hb
@[go_sem] theorem cell?_extL_drew' (B C : Nat) (w p : World) (o : Nat) (hb : C < w.heap.size) : (Plan.ext (ExtL B C) w.drew p).cell? ⟨C, o, none⟩ = w.cell? ⟨C, o, none⟩ := cell?_extL' B C w.drew p o hb
end Go.Plan
namespace Go.Proofs.YtmcgnnmffeojpaaGreatDoor
open Go.RowKit Go.Plan

theorem Row.ok_good {r : Row} (h : goodB r.k r.t r.v = true) : r.ok := by
  unfold goodB inB at h
  simp only [Bool.and_eq_true, decide_eq_true_eq] at h
  unfold Row.ok I64
  omega
theorem feedJ_ok {lo hi : Int} {s : Nat} {r : Row} {st : JSt} (hs : s < 2) (hA : ∀ h ∈ st.a, h.r.ok) (hB : ∀ h ∈ st.b, h.r.ok) : (∀ h ∈ (feedJ lo hi s r st).a, h.r.ok) ∧ ∀ h ∈ (feedJ lo hi s r st).b, h.r.ok := by
  unfold feedJ
  simp only
  split
  · exact ⟨hA, hB⟩
  · split
    · rename_i hE
      have hr : r.ok := by
        unfold feedE at hE
        by_cases h1 : goodB r.k r.t r.v = false
        · rw [if_pos h1] at hE; cases hE
        · exact Row.ok_good (by simpa using h1)
      have hmap : ∀ (p : Hd → Bool) (l : List Hd), (∀ h ∈ l, h.r.ok) → ∀ h ∈ l.map (bumpIf p), h.r.ok := fun p l hl h hh => by
        obtain ⟨g, hg, rfl⟩ := List.mem_map.1 hh
        rw [bumpIf_r]; exact hl g hg
      have hadd : ∀ (l : List Hd) (m : Int), (∀ h ∈ l, h.r.ok) → ∀ h ∈ addH l ⟨r, m⟩, h.r.ok := fun l m hl h hh => by
        rcases List.mem_cons.1 ((addH_perm l ⟨r, m⟩).mem_iff.1 hh) with rfl | hh
        · exact hr
        · exact hl h hh
      have hs' : s = 0 ∨ s = 1 := by omega
      rcases hs' with rfl | rfl
      · split
        · exact ⟨hadd _ _ hA, hmap _ _ hB⟩
        · exact ⟨hA, hmap _ _ hB⟩
      · split
        · exact ⟨hmap _ _ hA, hadd _ _ hB⟩
        · exact ⟨hmap _ _ hA, hB⟩
    · exact ⟨hA, hB⟩

section
variable {u u' : World} {E P M : Nat} {v0 v1 : Value} {D DG : Option Nat} {ents : List Ent} {lo hi md : Int} {st : JSt} {V W : List Out} {f0 f1 : Int}
/-- The join turns. -/
theorem EIs.joins {st' : JSt} (h : EIs u E P M v0 v1 D DG ents lo hi md st V W f0 f1) (hu : JUp u u' P M (JFoot P M v0 v1) lo hi md st') (hA : ∀ h ∈ st'.a, h.r.ok) (hB : ∀ h ∈ st'.b, h.r.ok) :
    ∃ v0' v1', JIs u' P M v0' v1' lo hi md st' ∧ EIs u' E P M v0' v1' D DG ents lo hi md st' V W f0 f1 ∧ ∀ k, EFoot E P M v0' v1' D DG ents k → EFoot E P M v0 v1 D DG ents k ∨ u.heap.size ≤ k := by
  obtain ⟨hx, Bs', ⟨v0', v1', hj, rfl⟩, hb⟩ := hu
  have hE : ¬ JFoot P M v0 v1 E := fun e => (h.sJ E e).1 (.inl rfl)
  have k := fun o => hx.cell (p := ⟨E, o, none⟩) h.lt hE
  have kf := fun o => hx.frozen (p := ⟨E, o, none⟩) h.lt hE
  refine ⟨v0', v1', hj, ?_, fun k hk => ?_⟩
  · refine ⟨(k _).trans h.c0, (k _).trans h.c1, (k _).trans h.c2, (k _).trans h.c3, h.bag.of hx hE (fun d hd e => (h.sJ d e).1 (.inr hd)), h.grp.of hx (fun k hk e => (h.sJ k e).2 hk), h.rep, (k _).trans h.c7, (k _).trans h.c8, fun q => (kf q).trans (h.fz q), hj, fun k hk => ?_, h.sB, hA, hB⟩
    rcases hb k hk with e | e
    · exact h.sJ k e
    · exact ⟨fun q => by have := h.bag.foot k q; omega, fun q => by have := h.grp.foot k q; omega⟩
  · rcases hk with hk | hk
    · rcases hb k hk with e | e
      · exact .inl (.inl e)
      · exact .inr e
    · exact .inl (.inr hk)
end
/-- Rows of changes and rows of held ones lie in different blocks. -/
theorem crow_apart {w : World} {b : Nat} {vo v : Value} {cs : List (Out × Bool)} {hs : List Hd} (hr : CRow w b vo cs) (h : HRow w v hs) (k : Nat) (hk : vo.ownBlock = some k) (hv : v.ownBlock = some k) : False := by
  unfold CRow World.ownsRow at hr
  unfold HRow World.ownsRow at h
  rcases hr.2 with ⟨rfl, -⟩ | ⟨g, cap, cur, rfl, -, hg, -⟩
  · cases hk
  · rcases h.2 with ⟨rfl, -⟩ | ⟨g', cap', cur', rfl, -, hg', -⟩
    · cases hv
    · obtain rfl : g = k := Option.some.inj hk
      obtain rfl : g' = g := Option.some.inj hv
      rw [hg] at hg'
      simp at hg'
/-- What the join's Feed leaves of an engine, and of the row that it gives. -/
def EGo (u u' : World) (E : Nat) (Bs : Nat → Prop) (lo hi md : Int) (st : JSt) (V W : List Out) (f0 f1 : Int) (vo : Value) : Prop :=
  ExtM Bs u u' ∧ ∃ Bs', EAt u' E Bs' lo hi md st V W f0 f1 ∧ (∀ k, Bs' k → Bs k ∨ u.heap.size ≤ k) ∧ ∀ k, vo.ownBlock = some k → ¬ Bs' k
/-- What a row's coming changes has good rows. -/
theorem chg_ok {md : Int} {s : Nat} {r : Row} {ms : List Hd} (hr : r.ok) (hm : ∀ m ∈ ms, m.r.ok) : ∀ c ∈ chgs md s r ms, c.1.ok := by
  have z : Row.ok ⟨0, 0, 0⟩ := by unfold Row.ok I64; decide
  have hl : ∀ (s : Nat) (x : Row), x.ok → (loneS s x).ok := fun s x hx => by unfold loneS; split <;> exact ⟨hx.1, by assumption, by assumption⟩
  intro c hc
  unfold chgs at hc
  rcases List.mem_append.1 hc with hc | hc
  · obtain ⟨m, hm', hc⟩ := List.mem_flatMap.1 hc
    have hmr := hm m hm'
    unfold chg1 at hc
    rcases List.mem_append.1 hc with hc | hc
    · split at hc
      · rw [List.mem_singleton] at hc; subst hc; exact hl _ _ hmr
      · cases hc
    · rw [List.mem_singleton] at hc; subst hc
      simp only
      split
      · exact ⟨hr.1, hr, hmr⟩
      · exact ⟨hmr.1, hmr, hr⟩
  · split at hc
    · rw [List.mem_singleton] at hc; subst hc; exact hl _ _ hr
    · cases hc
theorem feedC_ok {lo hi md : Int} {s : Nat} {r : Row} {st : JSt} (hA : ∀ h ∈ st.a, h.r.ok) (hB : ∀ h ∈ st.b, h.r.ok) : ∀ c ∈ feedC lo hi md s r st, c.1.ok := by
  unfold feedC
  split
  · rename_i hE
    have hr : r.ok := by
      unfold feedE at hE
      by_cases h1 : goodB r.k r.t r.v = false
      · rw [if_pos h1] at hE; cases hE
      · exact Row.ok_good (by simpa using h1)
    exact chg_ok hr fun m hm => by
      have := (List.mem_filter.1 hm).1
      unfold JSt.of at this
      split at this
      · exact hA m this
      · exact hB m this
  · exact fun c hc => nomatch hc
theorem feedC_len (lo hi md : Int) (s : Nat) (r : Row) (st : JSt) (la : st.a.length ≤ 300) (lb : st.b.length ≤ 300) : (feedC lo hi md s r st).length ≤ 601 := by
  unfold feedC
  split
  · rw [chgs_eq, List.length_append]
    have h1 := flat_len2 md s r ((st.of (1 - s)).filter (meetP r.k (frI lo hi s r.t) (tilI lo hi s r.t)))
    have h2 : ((st.of (1 - s)).filter (meetP r.k (frI lo hi s r.t) (tilI lo hi s r.t))).length ≤ 300 := Nat.le_trans (List.length_filter_le _ _) (by unfold JSt.of; split <;> assumption)
    have h3 : ∀ b : Bool, (if b = true then [(loneS s r, false)] else [] : List (Out × Bool)).length ≤ 1 := fun b => by cases b <;> simp
    have := h3 (decide (((st.of (1 - s)).filter (meetP r.k (frI lo hi s r.t) (tilI lo hi s r.t))).length = 0) && tellsB md s)
    omega
  · simp

theorem EIs.fed0 {u : World} {E P M : Nat} {v0 v1 : Value} {D DG : Option Nat} {ents : List Ent} {lo hi md : Int} {st : JSt} {V W : List Out} {f0 f1 : Int} (h : EIs u E P M v0 v1 D DG ents lo hi md st V W f0 f1) (x : Int) :
    EIs (u.setCell ⟨E, 7, none⟩ (.int .i64 x)) E P M v0 v1 D DG ents lo hi md st V W x f1 ∧ ExtM (fun k => k = E) u (u.setCell ⟨E, 7, none⟩ (.int .i64 x)) := by
  have hx : ExtM (fun k => k = E) u (u.setCell ⟨E, 7, none⟩ (.int .i64 x)) := ExtM.setCell (M := fun k => k = E) (ExtM.refl u) (p := ⟨E, 7, none⟩) (.inr rfl) _
  have hc : ∀ o, o ≠ 7 → (u.setCell ⟨E, 7, none⟩ (.int .i64 x)).cell? ⟨E, o, none⟩ = u.cell? ⟨E, o, none⟩ := fun o ho => World.cell?_setCell_other _ _ _ _ (by intro e; simp only [Addr.mk.injEq, and_true, true_and] at e; omega)
  have hf : ∀ o, (u.setCell ⟨E, 7, none⟩ (.int .i64 x)).frozen? ⟨E, o, none⟩ = u.frozen? ⟨E, o, none⟩ := fun o => World.frozen?_setCell _ _ _ _
  have hj : ∀ k, JFoot P M v0 v1 k → ¬ k = E := fun k hk e => by subst e; exact (h.sJ _ hk).1 (.inl rfl)
  refine ⟨⟨(hc 0 (by decide)).trans h.c0, (hc 1 (by decide)).trans h.c1, (hc 2 (by decide)).trans h.c2, (hc 3 (by decide)).trans h.c3, h.bag.of' hx (fun q hq => hc q (by omega)) hf (fun d hd e => ?_),
    h.grp.of' hx (hc 6 (by decide)) (hf 6) (fun k hk e => ?_), h.rep, World.cell?_setCell_same _ _ _ h.c7, (hc 8 (by decide)).trans h.c8, fun q => (hf q).trans (h.fz q), h.join.extM hx (hj P (.inl rfl)) (hj M (.inr (.inl rfl))) (fun k hk => hj k (.inr (.inr (.inl hk)))) (fun k hk => hj k (.inr (.inr (.inr hk)))), h.sJ, h.sB, h.okA, h.okB⟩, hx⟩
  · subst e
    rcases h.bag.mp with ⟨h1, -⟩ | ⟨d, m, h1, h2, -⟩
    · rw [h1] at hd; cases hd
    · rw [h1] at hd; exact h2 (Option.some.inj hd)
  · subst e
    rcases hk with hk | ⟨e, he, hk⟩
    · rcases h.grp.mp with ⟨h1, -⟩ | ⟨d, h1, h2, -⟩
      · rw [h1] at hk; cases hk
      · rw [h1] at hk; exact h2 (Option.some.inj hk)
    · exact (h.grp.away e he _ hk).1 rfl
theorem EIs.fed1 {u : World} {E P M : Nat} {v0 v1 : Value} {D DG : Option Nat} {ents : List Ent} {lo hi md : Int} {st : JSt} {V W : List Out} {f0 f1 : Int} (h : EIs u E P M v0 v1 D DG ents lo hi md st V W f0 f1) (x : Int) :
    EIs (u.setCell ⟨E, 8, none⟩ (.int .i64 x)) E P M v0 v1 D DG ents lo hi md st V W f0 x ∧ ExtM (fun k => k = E) u (u.setCell ⟨E, 8, none⟩ (.int .i64 x)) := by
  have hx : ExtM (fun k => k = E) u (u.setCell ⟨E, 8, none⟩ (.int .i64 x)) := ExtM.setCell (M := fun k => k = E) (ExtM.refl u) (p := ⟨E, 8, none⟩) (.inr rfl) _
  have hc : ∀ o, o ≠ 8 → (u.setCell ⟨E, 8, none⟩ (.int .i64 x)).cell? ⟨E, o, none⟩ = u.cell? ⟨E, o, none⟩ := fun o ho => World.cell?_setCell_other _ _ _ _ (by intro e; simp only [Addr.mk.injEq, and_true, true_and] at e; omega)
  have hf : ∀ o, (u.setCell ⟨E, 8, none⟩ (.int .i64 x)).frozen? ⟨E, o, none⟩ = u.frozen? ⟨E, o, none⟩ := fun o => World.frozen?_setCell _ _ _ _
  have hj : ∀ k, JFoot P M v0 v1 k → ¬ k = E := fun k hk e => by subst e; exact (h.sJ _ hk).1 (.inl rfl)
  refine ⟨⟨(hc 0 (by decide)).trans h.c0, (hc 1 (by decide)).trans h.c1, (hc 2 (by decide)).trans h.c2, (hc 3 (by decide)).trans h.c3, h.bag.of' hx (fun q hq => hc q (by omega)) hf (fun d hd e => ?_),
    h.grp.of' hx (hc 6 (by decide)) (hf 6) (fun k hk e => ?_), h.rep, (hc 7 (by decide)).trans h.c7, World.cell?_setCell_same _ _ _ h.c8, fun q => (hf q).trans (h.fz q), h.join.extM hx (hj P (.inl rfl)) (hj M (.inr (.inl rfl))) (fun k hk => hj k (.inr (.inr (.inl hk)))) (fun k hk => hj k (.inr (.inr (.inr hk)))), h.sJ, h.sB, h.okA, h.okB⟩, hx⟩
  · subst e
    rcases h.bag.mp with ⟨h1, -⟩ | ⟨d, m, h1, h2, -⟩
    · rw [h1] at hd; cases hd
    · rw [h1] at hd; exact h2 (Option.some.inj hd)
  · subst e
    rcases hk with hk | ⟨e, he, hk⟩
    · rcases h.grp.mp with ⟨h1, -⟩ | ⟨d, h1, h2, -⟩
      · rw [h1] at hk; cases hk
      · rw [h1] at hk; exact h2 (Option.some.inj hk)
    · exact (h.grp.away e he _ hk).1 rfl
/-- The blocks of an engine hold E. -/
theorem EUp.fed {u u' : World} {E : Nat} {Bs : Nat → Prop} {lo hi md : Int} {st : JSt} {V W : List Out} {f0 f1 f0' f1' : Int} (hB : Bs E) (h : EUp u u' E Bs lo hi md st V W f0 f1) (o : Nat) (x : Int)
    (ho : (o = 7 ∧ f0' = x ∧ f1' = f1) ∨ (o = 8 ∧ f0' = f0 ∧ f1' = x)) : EUp u (u'.setCell ⟨E, o, none⟩ (.int .i64 x)) E Bs lo hi md st V W f0' f1' := by
  obtain ⟨hx, Bs', ⟨P, M, v0, v1, D, DG, ents, hI, rfl⟩, hb⟩ := h
  rcases ho with ⟨rfl, rfl, rfl⟩ | ⟨rfl, rfl, rfl⟩
  · obtain ⟨h1, h2⟩ := hI.fed0 f0'
    exact ⟨ExtM.trans _ _ _ hx (h2.mono fun k _ e => e ▸ hB), _, ⟨P, M, v0, v1, D, DG, ents, h1, rfl⟩, hb⟩
  · obtain ⟨h1, h2⟩ := hI.fed1 f1'
    exact ⟨ExtM.trans _ _ _ hx (h2.mono fun k _ e => e ▸ hB), _, ⟨P, M, v0, v1, D, DG, ents, h1, rfl⟩, hb⟩

theorem tellV_c (n : Int) (w : World) (hg : Laid w) : Calls Tryz.prog 15 #[errV n] w fun e w' => e = .returned (.int .i64 n) ∧ Ext w w' := by
  by_cases h : n = 0
  · subst h
    exact (tell_nil w).mono fun e w' hh => ⟨hh.1, hh.2 ▸ ExtM.refl _⟩
  · rw [errV, if_neg h]; exact tell_c n w hg
theorem Laid.ofM {w w' : World} {M : Nat → Prop} (h : Laid w) (hx : ExtM M w w') (hne : ¬ M 0) : Laid w' := (hx.cell (p := ⟨0, 0, none⟩) (cell_lt h) hne).trans h

/-- The join's Feed beside the engine. -/
theorem en_join0 {u : World} {E P M : Nat} {v0 v1 : Value} {D DG : Option Nat} {ents : List Ent} {lo hi md : Int} {st : JSt} {V W : List Out} {f0 f1 : Int} (h : EIs u E P M v0 v1 D DG ents lo hi md st V W f0 f1) (hp : PlanOk lo hi) (la : st.a.length ≤ 300) (lb : st.b.length ≤ 300) (rk rt rv : Int) :
    Calls Tryz.prog 49 #[.pointer (some ⟨P, 0, none⟩), .int .i64 0, .agg #[.int .i64 rk, .int .i64 rt, .int .i64 rv]] u fun e u' =>
      ∃ vo, e = .returned (.tuple #[vo, errV (feedE lo hi 0 ⟨rk, rt, rv⟩ st.x st.y (st.of 0).length)]) ∧ ExtM (JFoot P M v0 v1) u u' ∧ CRow u' u.heap.size vo (feedC lo hi md 0 ⟨rk, rt, rv⟩ st) ∧ EGo u u' E (EFoot E P M v0 v1 D DG ents) lo hi md (feedJ lo hi 0 ⟨rk, rt, rv⟩ st) V W f0 f1 vo := by
  refine (feed0_c u P M v0 v1 lo hi md st rk rt rv h.join hp la lb).mono ?_
  rintro e u' ⟨vo, he, hr, hu⟩
  have hk := feedJ_ok (lo := lo) (hi := hi) (s := 0) (r := ⟨rk, rt, rv⟩) (st := st) (by decide) h.okA h.okB
  obtain ⟨v0', v1', hj, hI, hb⟩ := h.joins hu hk.1 hk.2
  refine ⟨vo, he, hu.1, hr, hu.1.mono (fun k _ hk => .inl hk), _, ⟨P, M, v0', v1', D, DG, ents, hI, rfl⟩, hb, fun k hk hf => ?_⟩
  have hlt := (own_lt hr k hk).1
  rcases hf with (rfl | rfl | hf | hf) | hf | hf
  · have := h.join.lt; omega
  · have := h.join.mks.lt; omega
  · exact crow_apart hr hj.s0.row k hk hf
  · exact crow_apart hr hj.s1.row k hk hf
  · have := h.bag.foot k hf; omega
  · have := h.grp.foot k hf; omega
/-- The join's Feed beside the engine. -/
theorem en_join1 {u : World} {E P M : Nat} {v0 v1 : Value} {D DG : Option Nat} {ents : List Ent} {lo hi md : Int} {st : JSt} {V W : List Out} {f0 f1 : Int} (h : EIs u E P M v0 v1 D DG ents lo hi md st V W f0 f1) (hp : PlanOk lo hi) (la : st.a.length ≤ 300) (lb : st.b.length ≤ 300) (rk rt rv : Int) :
    Calls Tryz.prog 49 #[.pointer (some ⟨P, 0, none⟩), .int .i64 1, .agg #[.int .i64 rk, .int .i64 rt, .int .i64 rv]] u fun e u' =>
      ∃ vo, e = .returned (.tuple #[vo, errV (feedE lo hi 1 ⟨rk, rt, rv⟩ st.x st.y (st.of 1).length)]) ∧ ExtM (JFoot P M v0 v1) u u' ∧ CRow u' u.heap.size vo (feedC lo hi md 1 ⟨rk, rt, rv⟩ st) ∧ EGo u u' E (EFoot E P M v0 v1 D DG ents) lo hi md (feedJ lo hi 1 ⟨rk, rt, rv⟩ st) V W f0 f1 vo := by
  refine (feed1_c u P M v0 v1 lo hi md st rk rt rv h.join hp la lb).mono ?_
  rintro e u' ⟨vo, he, hr, hu⟩
  have hk := feedJ_ok (lo := lo) (hi := hi) (s := 1) (r := ⟨rk, rt, rv⟩) (st := st) (by decide) h.okA h.okB
  obtain ⟨v0', v1', hj, hI, hb⟩ := h.joins hu hk.1 hk.2
  refine ⟨vo, he, hu.1, hr, hu.1.mono (fun k _ hk => .inl hk), _, ⟨P, M, v0', v1', D, DG, ents, hI, rfl⟩, hb, fun k hk hf => ?_⟩
  have hlt := (own_lt hr k hk).1
  rcases hf with (rfl | rfl | hf | hf) | hf | hf
  · have := h.join.lt; omega
  · have := h.join.mks.lt; omega
  · exact crow_apart hr hj.s0.row k hk hf
  · exact crow_apart hr hj.s1.row k hk hf
  · have := h.bag.foot k hf; omega
  · have := h.grp.foot k hf; omega
end Go.Proofs.YtmcgnnmffeojpaaGreatDoor
