/- A side and the reference's join beside each other: what each call leaves of both. -/
import Derived.Test.YtggjceolhbdalaaGreatDoorHeldC
namespace Go.Plan
/-- Nothing is known but that block B has not turned. -/
def ExtK (B : Nat) (w w' : World) : Prop := ExtM (fun k => ¬ k = B) w w'
theorem ExtK.refl {B : Nat} (w : World) : ExtK B w w := ExtM.refl w
theorem ExtK.trans {B : Nat} (a b c : World) (h : ExtK B a b) (k : ExtK B b c) : ExtK B a c := ExtM.trans _ _ _ h k
instance {B : Nat} : Std.Refl (ExtK B) := ⟨ExtK.refl⟩
instance {B : Nat} : Trans (ExtK B) (ExtK B) (ExtK B) := ⟨fun h k => ExtK.trans _ _ _ h k⟩
theorem ExtK.of_ext {B : Nat} {w w' : World} (h : Ext w w') : ExtK B w w' := ExtM.mono h (fun _ _ h => h.elim)
theorem ExtK.drew {B : Nat} {a w : World} (h : ExtK B a w) : ExtK B a w.drew := ExtM.drew h
theorem ExtK.alloc {B : Nat} {a w : World} (h : ExtK B a w) (o : Obj) : ExtK B a (w.alloc o) := ExtM.alloc h o
theorem ExtK.size {B : Nat} {w w' : World} (h : ExtK B w w') : w.heap.size ≤ w'.heap.size := ExtM.size h
theorem ExtK.rules {B : Nat} {w w' : World} (h : ExtK B w w') : (∀ o, B < w.heap.size → w'.cell? ⟨B, o, none⟩ = w.cell? ⟨B, o, none⟩) ∧ (∀ o, B < w.heap.size → w'.frozen? ⟨B, o, none⟩ = w.frozen? ⟨B, o, none⟩) ∧ True :=
  ⟨fun o hb => ExtM.cell h (p := ⟨B, o, none⟩) hb (fun h => h rfl), fun o hb => ExtM.frozen h (p := ⟨B, o, none⟩) hb (fun h => h rfl), trivial⟩
@[go_sem] theorem cell?_extK (B : Nat) (w p : World) (o : Nat) (hb : B < w.heap.size) : (Plan.ext (ExtK B) w p).cell? ⟨B, o, none⟩ = w.cell? ⟨B, o, none⟩ :=
  (ext_E ExtK.refl w p).rules.1 o hb
@[go_sem] theorem frozen?_extK (B : Nat) (w p : World) (o : Nat) (hb : B < w.heap.size) : (Plan.ext (ExtK B) w p).frozen? ⟨B, o, none⟩ = w.frozen? ⟨B, o, none⟩ :=
  (ext_E ExtK.refl w p).rules.2.1 o hb
@[go_sem] theorem cell?_extK_drew (B : Nat) (w p : World) (o : Nat) (hb : B < w.heap.size) : (Plan.ext (ExtK B) w.drew p).cell? ⟨B, o, none⟩ = w.cell? ⟨B, o, none⟩ := cell?_extK B w.drew p o hb
@[go_sem] theorem frozen?_extK_drew (B : Nat) (w p : World) (o : Nat) (hb : B < w.heap.size) : (Plan.ext (ExtK B) w.drew p).frozen? ⟨B, o, none⟩ = w.frozen? ⟨B, o, none⟩ := frozen?_extK B w.drew p o hb
end Go.Plan
namespace Go.Proofs.YtggjceolhbdalaaGreatDoor
open Go.RowKit Go.Plan

theorem RJ.extM {M : Nat → Prop} {w w' : World} {J s : Nat} {v : Value} {L : List RHd} {came : Int} (h : RJ w J s v L came) (hx : ExtM M w w') (hJ : ¬ M J) (hr : ∀ k, v.ownBlock = some k → ¬ M k) : RJ w' J s v L came :=
  ⟨h.hs, (hx.cell (p := ⟨J, _, none⟩) h.lt hJ).trans h.c3, (hx.cell (p := ⟨J, _, none⟩) h.lt hJ).trans h.c8, fun o => (hx.frozen (p := ⟨J, o, none⟩) h.lt hJ).trans (h.f3 o), h.row.ext hx hr, h.own⟩
theorem SideIs.extM {M : Nat → Prop} {w w' : World} {S o : Nat} {v : Value} {hs : List Hd} (h : SideIs w S o v hs) (hx : ExtM M w w') (hS : ¬ M S) (hr : ∀ k, v.ownBlock = some k → ¬ M k) : SideIs w' S o v hs :=
  ⟨(hx.cell (p := ⟨S, o, none⟩) h.lt hS).trans h.c0, (hx.frozen (p := ⟨S, o, none⟩) h.lt hS).trans h.fz, h.row.ext hx hr, h.srt, h.own⟩

/-- A side at A whose rows are v, the reference's join at J whose left rows are r; none of all that lies in another's block, nor in one of Av; what was in w has not turned. -/
structure SPx (w u : World) (A J : Nat) (Av : Nat → Prop) (v r : Value) (hs : List Hd) (L : List RHd) (came : Int) : Prop where
  ext : Ext w u
  nA : w.heap.size ≤ A
  nJ : w.heap.size ≤ J
  ne : A ≠ J
  side : SideIs u A 0 v hs
  ref : RJ u J 0 r L came
  hv : ∀ k, v.ownBlock = some k → w.heap.size ≤ k ∧ k ≠ J ∧ r.ownBlock ≠ some k ∧ ¬ Av k
  hr : ∀ k, r.ownBlock = some k → w.heap.size ≤ k ∧ k ≠ A ∧ ¬ Av k
  av : ∀ b, Av b → b < u.heap.size ∧ b ≠ A ∧ b ≠ J
def SP0 (w u : World) (A J : Nat) (Av : Nat → Prop) (hs : List Hd) (L : List RHd) (came : Int) : Prop := ∃ v r, SPx w u A J Av v r hs L came

section
variable {w u u' : World} {A J : Nat} {Av : Nat → Prop} {v r : Value} {hs : List Hd} {L : List RHd} {came : Int}

theorem SPx.of (h : SPx w u A J Av v r hs L came) (hx : Ext u u') : SPx w u' A J Av v r hs L came :=
  ⟨ExtM.trans _ _ _ h.ext hx, h.nA, h.nJ, h.ne, h.side.ext hx, h.ref.ext hx, h.hv, h.hr, fun b hb => ⟨Nat.lt_of_lt_of_le (h.av b hb).1 hx.size, (h.av b hb).2⟩⟩
theorem SPx.narrow {Av' : Nat → Prop} (h : SPx w u A J Av v r hs L came) (hA : ∀ b, Av' b → Av b) : SPx w u A J Av' v r hs L came :=
  ⟨h.ext, h.nA, h.nJ, h.ne, h.side, h.ref, fun k hk => ⟨(h.hv k hk).1, (h.hv k hk).2.1, (h.hv k hk).2.2.1, fun e => (h.hv k hk).2.2.2 (hA k e)⟩, fun k hk => ⟨(h.hr k hk).1, (h.hr k hk).2.1, fun e => (h.hr k hk).2.2 (hA k e)⟩, fun b hb => h.av b (hA b hb)⟩
theorem SPx.wide {Av' : Nat → Prop} (h : SPx w u A J Av v r hs L came) (hx : Ext u u') (hA : ∀ b, Av' b → Av b ∨ (u.heap.size ≤ b ∧ b < u'.heap.size)) : SPx w u' A J Av' v r hs L came := by
  have h1 := h.of hx
  have lA := h.side.lt
  have lJ := h.ref.lt
  refine ⟨h1.ext, h1.nA, h1.nJ, h1.ne, h1.side, h1.ref, fun k hk => ⟨(h.hv k hk).1, (h.hv k hk).2.1, (h.hv k hk).2.2.1, fun e => ?_⟩, fun k hk => ⟨(h.hr k hk).1, (h.hr k hk).2.1, fun e => ?_⟩, fun b hb => ?_⟩
  · rcases hA k e with e | e
    · exact (h.hv k hk).2.2.2 e
    · have := (own_lt h.side.row k hk).2; omega
  · rcases hA k e with e | e
    · exact (h.hr k hk).2.2 e
    · have := (own_lt h.ref.row k hk).2; omega
  · rcases hA b hb with e | e
    · exact h1.av b e
    · exact ⟨e.2, by omega, by omega⟩
theorem SP0.of (h : SP0 w u A J Av hs L came) (hx : Ext u u') : SP0 w u' A J Av hs L came := by
  obtain ⟨v, r, h⟩ := h; exact ⟨v, r, h.of hx⟩
theorem SP0.ext (h : SP0 w u A J Av hs L came) : Ext w u := by
  obtain ⟨v, r, h⟩ := h; exact h.ext

theorem SPx.side_up {hs' : List Hd} (h : SPx w u A J Av v r hs L came) (hu : SideUp u u' A 0 v hs') : ExtM (fun k => ¬ Av k) u u' ∧ SP0 w u' A J Av hs' L came := by
  obtain ⟨⟨v', hS', ho⟩, hx, -, -⟩ := hu
  have lJ := h.ref.lt
  have hsz := h.ext.size
  refine ⟨hx.mono (fun k _ hk e => ?_), v', r, h.ext.fresh hx (fun k hk e => ?_), h.nA, h.nJ, h.ne, hS', h.ref.extM hx (fun e => ?_) (fun k hk e => ?_), fun k hk => ?_, h.hr, fun b hb => ⟨Nat.lt_of_lt_of_le (h.av b hb).1 hx.size, (h.av b hb).2⟩⟩
  · rcases hk with rfl | hk
    · exact (h.av _ e).2.1 rfl
    · exact (h.hv k hk).2.2.2 e
  · rcases e with rfl | e
    · have := h.nA; omega
    · have := (h.hv k e).1; omega
  · rcases e with e | e
    · exact h.ne e.symm
    · exact (h.hv J e).2.1 rfl
  · rcases e with rfl | e
    · exact (h.hr k hk).2.1 rfl
    · exact (h.hv k e).2.2.1 hk
  · rcases ho with ho | ⟨k', ho, hn⟩
    · rw [ho] at hk; exact h.hv k hk
    · rw [ho] at hk
      have := Option.some.inj hk
      subst this
      exact ⟨by omega, by omega, fun e => by have := (own_lt h.ref.row _ e).2; omega, fun e => by have := (h.av _ e).1; omega⟩

theorem SPx.ref_up {L' : List RHd} {came' : Int} (h : SPx w u A J Av v r hs L came) (hu : RJUp u u' J 0 r L' came') : ExtM (fun k => ¬ Av k) u u' ∧ SP0 w u' A J Av hs L' came' := by
  obtain ⟨⟨r', hR', ho⟩, hx, -⟩ := hu
  have lA := h.side.lt
  have hsz := h.ext.size
  refine ⟨hx.mono (fun k _ hk e => ?_), v, r', h.ext.fresh hx (fun k hk e => ?_), h.nA, h.nJ, h.ne, h.side.extM hx (fun e => h.ne e) (fun k hk e => (h.hv k hk).2.1 e), hR', fun k hk => ⟨(h.hv k hk).1, (h.hv k hk).2.1, fun e => ?_, (h.hv k hk).2.2.2⟩, fun k hk => ?_, fun b hb => ⟨Nat.lt_of_lt_of_le (h.av b hb).1 hx.size, (h.av b hb).2⟩⟩
  · subst hk; exact (h.av _ e).2.2 rfl
  · subst e; have := h.nJ; omega
  · rcases ho with ho | ⟨k', ho, hn⟩
    · exact (h.hv k hk).2.2.1 (ho ▸ e)
    · rw [ho] at e
      have := Option.some.inj e
      have := (own_lt h.side.row k hk).2
      omega
  · rcases ho with ho | ⟨k', ho, hn⟩
    · exact h.hr k (ho ▸ hk)
    · rw [ho] at hk
      have := Option.some.inj hk
      subst this
      exact ⟨by omega, by omega, fun e => by have := (h.av _ e).1; omega⟩

theorem sp_add (h : SP0 w u A J Av hs L came) (x : Hd) :
    Calls Tryz.prog 42 #[.pointer (some ⟨A, 0, none⟩), .agg #[.int .i64 x.r.k, .int .i64 x.r.t, .int .i64 x.r.v], .int .i64 x.m] u fun e u' => e = .returned (errV (addE hs x)) ∧ ExtM (fun k => ¬ Av k) u u' ∧ SP0 w u' A J Av (addL hs x) L came := by
  obtain ⟨v, r, h⟩ := h
  exact (add_c A 0 v hs x u h.side).mono fun e u' hh => ⟨hh.1, h.side_up hh.2⟩
theorem sp_put (h : SP0 w u A J Av hs L came) (x : Hd) (hc : 0 ≤ came ∧ came < 1000000) :
    Calls Tryz.prog 15 #[.pointer (some ⟨J, 0, none⟩), .int .i64 0, .agg #[.int .i64 x.r.k, .int .i64 x.r.t, .int .i64 x.r.v], .int .i64 x.m] u fun e u' => e = .returned (.int .i64 (addE (L.map RHd.hd) x)) ∧ ExtM (fun k => ¬ Av k) u u' ∧ SP0 w u' A J Av hs (putL L x came) (putN L x came) := by
  obtain ⟨v, r, h⟩ := h
  exact (rput_c J 0 r L came x u h.ref hc).mono fun e u' hh => ⟨hh.1, h.ref_up hh.2⟩
theorem sp_drop (h : SP0 w u A J Av hs L came) (to : Int) (hl : hs.length < 1000000) :
    Calls Tryz.prog 44 #[.pointer (some ⟨A, 0, none⟩), .int .i64 to] u fun e u' => e = .returned (.int .i64 ((hs.length - (dropL to hs).length : Nat) : Int)) ∧ ExtM (fun k => ¬ Av k) u u' ∧ SP0 w u' A J Av (dropL to hs) L came := by
  obtain ⟨v, r, h⟩ := h
  exact (drop_c A 0 v hs to u h.side hl).mono fun e u' hh => ⟨hh.1, h.side_up hh.2⟩
theorem sp_meet (h : SP0 w u A J Av hs L came) (key fr to : Int) (hl : hs.length < 1000000) :
    Calls Tryz.prog 38 #[.pointer (some ⟨A, 0, none⟩), .int .i64 key, .int .i64 fr, .int .i64 to] u fun e u' => ∃ vo, e = .returned vo ∧ MRow u' u.heap.size vo (hs.filter (meetP key fr to)) ∧ ExtM (fun k => ¬ Av k ∧ w.heap.size ≤ k ∧ k ≠ J) u u' ∧ SP0 w u' A J Av (hs.map (bumpIf (meetP key fr to))) L came := by
  obtain ⟨v, r, h⟩ := h
  refine (meet_c A 0 v hs key fr to u h.side hl).mono ?_
  rintro e u' ⟨vo, he, hm, hS, hx⟩
  have hsz := h.ext.size
  refine ⟨vo, he, hm, hx.mono (fun k _ hk => ⟨(h.hv k hk).2.2.2, (h.hv k hk).1, (h.hv k hk).2.1⟩), v, r, h.ext.fresh hx (fun k hk e => by have := (h.hv k e).1; omega), h.nA, h.nJ, h.ne, hS, h.ref.extM hx (fun e => (h.hv J e).2.1 rfl) (fun k hk e => (h.hv k e).2.2.1 hk), h.hv, h.hr, fun b hb => ⟨Nat.lt_of_lt_of_le (h.av b hb).1 hx.size, (h.av b hb).2⟩⟩
theorem sp_many (h : SP0 w u A J Av hs L came) :
    Calls Tryz.prog 37 #[.pointer (some ⟨A, 0, none⟩)] u fun e u' => e = .returned (.int .i64 (hs.length : Nat)) ∧ Ext u u' := by
  obtain ⟨v, r, h⟩ := h
  exact (many_c A 0 v hs u h.side).mono fun e u' hh => ⟨hh.1, hh.2 ▸ ExtM.refl _⟩
theorem sp_all (h : SP0 w u A J Av hs L came) (hl : hs.length < 1000000) :
    Calls Tryz.prog 45 #[.pointer (some ⟨A, 0, none⟩)] u fun e u' => ∃ vo, e = .returned vo ∧ MRow u' u.heap.size vo hs ∧ Ext u u' := by
  obtain ⟨v, r, h⟩ := h
  exact all_c A 0 v hs u h.side hl
theorem sp_rall (h : SP0 w u A J Av hs L came) (hl : L.length < 100000) :
    Calls Tryz.prog 20 #[.pointer (some ⟨J, 0, none⟩), .int .i64 0] u (RAllPost L u) := by
  obtain ⟨v, r, h⟩ := h
  exact rall_c J 0 r L u (by omega) h.ref.c3 h.ref.row hl

/-- One more of the reference's rows has met one more. -/
theorem JRow.setM {g n cap b : Nat} (h : JRow u b (.slice (some ⟨g, 0, none⟩) n cap) L) (j : Nat) (x : RHd) (hj : L[j]? = some x) (m : Int) : JRow (u.setCell ⟨g, j * 5 + 3, none⟩ (.int .i64 m)) b (.slice (some ⟨g, 0, none⟩) n cap) (L.set j ⟨x.r, m, x.c⟩) := by
  obtain ⟨hj', rfl⟩ := List.getElem?_eq_some_iff.1 hj
  obtain ⟨p', cap', he, -⟩ := own_slice h
  injection he with h1 h2 h3
  subst h2
  exact own_setCell rhd_len h j 3 hj' (by decide) _ _ rfl
theorem SPx.setM {g n cap : Nat} (h : SPx w u A J Av v (.slice (some ⟨g, 0, none⟩) n cap) hs L came) (j : Nat) (x : RHd) (hj : L[j]? = some x) (m : Int) :
    SPx w (u.setCell ⟨g, j * 5 + 3, none⟩ (.int .i64 m)) A J Av v (.slice (some ⟨g, 0, none⟩) n cap) hs (L.set j ⟨x.r, m, x.c⟩) came ∧ ExtM (fun k => ¬ Av k) u (u.setCell ⟨g, j * 5 + 3, none⟩ (.int .i64 m)) := by
  have hx : ExtM (fun k => k = g) u (u.setCell ⟨g, j * 5 + 3, none⟩ (.int .i64 m)) := ExtM.setCell (M := fun k => k = g) (ExtM.refl u) (p := ⟨g, j * 5 + 3, none⟩) (.inr rfl) _
  have hg := h.hr g rfl
  have hgJ : g ≠ J := fun e => h.ref.own (by rw [e]; rfl)
  refine ⟨⟨h.ext.fresh hx (fun k hk e => by omega), h.nA, h.nJ, h.ne, h.side.extM hx (fun e => hg.2.1 e.symm) (fun k hk e => (h.hv k hk).2.2.1 (by rw [e]; rfl)), ?_, h.hv, h.hr, fun b hb => ⟨Nat.lt_of_lt_of_le (h.av b hb).1 hx.size, (h.av b hb).2⟩⟩, hx.mono (fun k _ hk e => hg.2.2 (hk ▸ e))⟩
  exact ⟨h.ref.hs, (hx.cell (p := ⟨J, _, none⟩) h.ref.lt (fun e => hgJ e.symm)).trans h.ref.c3, (hx.cell (p := ⟨J, _, none⟩) h.ref.lt (fun e => hgJ e.symm)).trans h.ref.c8, fun o => (hx.frozen (p := ⟨J, o, none⟩) h.ref.lt (fun e => hgJ e.symm)).trans (h.ref.f3 o), h.ref.row.setM j x hj m, h.ref.own⟩
/-- The reference's rows, others. -/
theorem SPx.setRows {b : Nat} {r' : Value} {L' : List RHd} (h : SPx w u A J Av v r hs L came) (hrow : JRow u b r' L') (hn : ∀ k, r'.ownBlock = some k → w.heap.size ≤ k ∧ k ≠ A ∧ k ≠ J ∧ ¬ Av k ∧ v.ownBlock ≠ some k) :
    SPx w (u.setCell ⟨J, 3, none⟩ r') A J Av v r' hs L' came ∧ ExtM (fun k => ¬ Av k) u (u.setCell ⟨J, 3, none⟩ r') := by
  have hx : ExtM (fun k => k = J) u (u.setCell ⟨J, 3, none⟩ r') := ExtM.setCell (M := fun k => k = J) (ExtM.refl u) (p := ⟨J, 3, none⟩) (.inr rfl) _
  have hnJ := h.nJ
  refine ⟨⟨h.ext.fresh hx (fun k hk e => by omega), h.nA, h.nJ, h.ne, h.side.extM hx h.ne (fun k hk e => (h.hv k hk).2.1 e), ?_, fun k hk => ⟨(h.hv k hk).1, (h.hv k hk).2.1, fun e => (hn k e).2.2.2.2 hk, (h.hv k hk).2.2.2⟩, fun k hk => ⟨(hn k hk).1, (hn k hk).2.1, (hn k hk).2.2.2.1⟩, fun b hb => ⟨Nat.lt_of_lt_of_le (h.av b hb).1 hx.size, (h.av b hb).2⟩⟩, hx.mono (fun k _ hk e => (h.av k e).2.2 hk)⟩
  refine ⟨h.ref.hs, World.cell?_setCell_same _ _ _ h.ref.c3, ?_, fun o => by rw [World.frozen?_setCell]; exact h.ref.f3 o, own_weaken (own_ext hrow hx (fun k hk e => (hn k hk).2.2.1 e)) (Nat.zero_le _), fun e => (hn J e).2.2.1 rfl⟩
  rw [World.cell?_setCell_other _ _ _ _ (by intro e; simp only [Addr.mk.injEq, and_true] at e; omega)]
  exact h.ref.c8
end

theorem relS_addput {hs : List Hd} {L : List RHd} {came : Int} (h : ∃ S, RelS hs S L came) (x : Hd) : ∃ S, RelS (addL hs x) S (putL L x came) (putN L x came) := by
  obtain ⟨S, h⟩ := h
  have hl : addE (L.map RHd.hd) x = addE hs x := by unfold addE; rw [List.length_map, h.len]
  unfold addL putL putN
  rw [hl]
  by_cases he : addE hs x = 0
  · rw [if_pos he, if_pos he, if_pos he]; exact h.add x.r x.m
  · rw [if_neg he, if_neg he, if_neg he]; exact ⟨S, h⟩

/-- A new join of the reference. -/
structure NewJ (u u' : World) (J : Nat) (lo hi md : Int) : Prop where
  ext : Ext u u'
  lt : J < u'.heap.size
  c0 : u'.cell? ⟨J, 0, none⟩ = some (.int .i64 lo)
  c1 : u'.cell? ⟨J, 1, none⟩ = some (.int .i64 hi)
  c2 : u'.cell? ⟨J, 2, none⟩ = some (.int .i64 md)
  c3 : u'.cell? ⟨J, 3, none⟩ = some (.slice none 0 0)
  c4 : u'.cell? ⟨J, 4, none⟩ = some (.slice none 0 0)
  c5 : u'.cell? ⟨J, 5, none⟩ = some (.int .i64 (-1099511627777))
  c6 : u'.cell? ⟨J, 6, none⟩ = some (.int .i64 (-1099511627777))
  c7 : u'.cell? ⟨J, 7, none⟩ = some (.int .i64 0)
  c8 : u'.cell? ⟨J, 8, none⟩ = some (.int .i64 0)
  fz : ∀ o, u'.frozen? ⟨J, o, none⟩ = false
set_option maxRecDepth 100000 in
theorem newJoin_c (lo hi md : Int) (u : World) :
    Calls Tryz.prog 8 #[.agg #[.int .i64 lo, .int .i64 hi, .int .i64 md]] u fun e u' => e = .returned (.pointer (some ⟨u.heap.size + 1, 0, none⟩)) ∧ NewJ u u' (u.heap.size + 1) lo hi md := by
  go_enter Tryz.func8, Tryz.ntmps8
  go_wp2_with fail
  go_ret
  refine ⟨rfl, ((ExtM.refl u).alloc _).alloc _, by simp, by go_simp, by go_simp, by go_simp, by go_simp, by go_simp, by go_simp, by go_simp, by go_simp, by go_simp, fun o => ?_⟩
  rw [Go.RowKit.frozen?_alloc_cells]; simp [World.frozen?]
theorem NewJ.rj {u u' : World} {J : Nat} {lo hi md : Int} (h : NewJ u u' J lo hi md) (s : Nat) (hs : s < 2) : RJ u' J s (.slice none 0 0) [] 0 := by
  refine ⟨hs, ?_, h.c8, h.fz, ⟨rfl, .inl ⟨rfl, rfl⟩⟩, fun e => by cases e⟩
  match s, hs with
  | 0, _ => exact h.c3
  | 1, _ => exact h.c4
end Go.Proofs.YtggjceolhbdalaaGreatDoor
