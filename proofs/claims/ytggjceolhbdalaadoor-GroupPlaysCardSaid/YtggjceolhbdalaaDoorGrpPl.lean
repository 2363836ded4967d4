/- The law GroupPlays: what it keeps, step by step. -/
import Derived.Test.YtggjceolhbdalaaDoorGrpLaw
import Derived.Test.YtggjceolhbdalaaDoorErrs3
namespace Go.Proofs.YtggjceolhbdalaaDoor
open Go.RowKit Go.Plan

/-- The groups at A say what R tells; the slice at A + 1 holds la; nothing is both's. -/
structure GP (w wr : World) (A : Nat) (R : List Ent → Prop) (la : List Out) (n : Nat) : Prop where
  ex : ∃ D ents v, GrpIs wr A 0 D ents ∧ R ents ∧ wr.cell? ⟨A + 1, 0, none⟩ = some v ∧ wr.frozen? ⟨A + 1, 0, none⟩ = false ∧ wr.ownsRow A 45 9 v la.length (la.flatMap Out.cells) ∧
    (∀ k, grpM A D ents k → A ≤ k ∧ k ≠ A + 1 ∧ v.ownBlock ≠ some k ∧ k ≠ n) ∧ v.ownBlock ≠ some (A + 1)
  ext : Ext w wr
  low : w.heap.size ≤ A
theorem ownsRow_ext {w w' : World} {b n sz : Nat} {e : TypeId} {v : Value} {xs : List Value} {M : Nat → Prop} (h : w.ownsRow b e sz v n xs) (hx : ExtM M w w') (hM : ∀ k, v.ownBlock = some k → ¬ M k) : w'.ownsRow b e sz v n xs := by
  obtain ⟨h1, h2⟩ := h
  refine ⟨h1, ?_⟩
  rcases h2 with h2 | ⟨g, cap, cur, rfl, e2, e3, e4⟩
  · exact .inl h2
  · exact .inr ⟨g, cap, cur, rfl, e2, (hx.block g (Array.getElem?_eq_some_iff.1 e3).1 (hM g rfl)).trans e3, e4⟩
theorem ownsRow_lt {w : World} {b n sz : Nat} {e : TypeId} {v : Value} {xs : List Value} (h : w.ownsRow b e sz v n xs) (k : Nat) (hk : v.ownBlock = some k) : b ≤ k ∧ k < w.heap.size := by
  rcases h.2 with ⟨rfl, -⟩ | ⟨g, cap, cur, rfl, e2, e3, e4⟩
  · cases hk
  · have := Option.some.inj hk
    simp at this
    subst this
    exact ⟨e2, (Array.getElem?_eq_some_iff.1 e3).1⟩
theorem GP.of {w wr w' : World} {A : Nat} {R : List Ent → Prop} {la : List Out} {n : Nat} (h : GP w wr A R la n) (hx : Ext wr w') : GP w w' A R la n := by
  obtain ⟨⟨D, ents, v, h1, h2, h3, h4, h5, h6, h7⟩, h8, h9⟩ := h
  have hl := cell_lt' h3
  exact ⟨⟨D, ents, v, h1.of hx (fun _ _ => id), h2, (hx.cell (p := ⟨A + 1, 0, none⟩) hl id).trans h3, (hx.frozen (p := ⟨A + 1, 0, none⟩) hl id).trans h4, ownsRow_ext h5 hx (fun _ _ => id), h6, h7⟩, ExtM.trans _ _ _ h8 hx, h9⟩
theorem GP.size {w wr : World} {A : Nat} {R : List Ent → Prop} {la : List Out} {n : Nat} (h : GP w wr A R la n) : A + 1 < wr.heap.size := by
  obtain ⟨⟨D, ents, v, h1, h2, h3, h4, h5, h6, h7⟩, h8, h9⟩ := h
  exact cell_lt' h3
theorem GP.step {w wr w' : World} {A n : Nat} {R R' : List Ent → Prop} {la : List Out} {D D' : Option Nat} {ents ents' : List Ent} {v : Value} (h1 : GrpIs wr A 0 D ents) (h3 : wr.cell? ⟨A + 1, 0, none⟩ = some v) (h4 : wr.frozen? ⟨A + 1, 0, none⟩ = false) (h5 : wr.ownsRow A 45 9 v la.length (la.flatMap Out.cells))
    (h6 : ∀ k, grpM A D ents k → A ≤ k ∧ k ≠ A + 1 ∧ v.ownBlock ≠ some k ∧ k ≠ n) (hn : n < wr.heap.size) (h7 : v.ownBlock ≠ some (A + 1)) (h8 : Ext w wr) (h9 : w.heap.size ≤ A) (g1 : GrpIs w' A 0 D' ents') (g2 : R' ents') (ht : Turned wr w' A D D' ents ents') : GP w w' A R' la n ∧ w'.heap[n]? = wr.heap[n]? := by
  have hl : A + 1 < wr.heap.size := cell_lt' h3
  refine ⟨⟨⟨D', ents', v, g1, g2, (ht.ext.cell (p := ⟨A + 1, 0, none⟩) hl (fun h => (h6 _ h).2.1 rfl)).trans h3, (ht.ext.frozen (p := ⟨A + 1, 0, none⟩) hl (fun h => (h6 _ h).2.1 rfl)).trans h4, ownsRow_ext h5 ht.ext (fun k hk h => (h6 k h).2.2.1 hk), fun k hk => ?_, h7⟩, ?_, h9⟩, ht.ext.block n hn (fun h => (h6 n h).2.2.2 rfl)⟩
  · rcases ht.foot k hk with h | h
    · exact h6 k h
    · refine ⟨by omega, by omega, fun e => ?_, by omega⟩
      have := (ownsRow_lt h5 k e).2; omega
  · exact ⟨ht.ext.os.trans h8.os, ht.ext.tape.trans h8.tape, ht.ext.output.trans h8.output, Nat.le_trans h8.size ht.ext.size, fun k hk _ => (ht.ext.block k (Nat.lt_of_lt_of_le hk h8.size) (fun h => by have := (h6 k h).1; omega)).trans (h8.block k hk id)⟩

theorem gp_add {w wr : World} {A n : Nat} {l : List Out} (h : GP w wr A (RepAll · l) l n) (hn : n < wr.heap.size) (x : Out) (hx : x.ok) (hl : l.length < 1000000) :
    Calls Tryd.prog 13 #[.pointer (some ⟨A, 0, none⟩), encC x false] wr fun e w' => e = .returned .nilIface ∧ GP w w' A (RepAll · (x :: l)) l n ∧ w'.heap[n]? = wr.heap[n]? := by
  obtain ⟨⟨D, ents, v, h1, h2, h3, h4, h5, h6, h7⟩, h8, h9⟩ := h
  exact (grpAdd_c A 0 D ents x wr h1 hx (fun a ha => by have := h2.bound ha; omega)).mono fun e w' ⟨he, D', ents', g1, g2, g3⟩ => ⟨he, GP.step (R := (RepAll · l)) h1 h3 h4 h5 h6 hn h7 h8 h9 g1 (h2.add g3) g2⟩

/-- May one less of x be. -/
def okB (l : List Out) (x : Out) : Bool := l.any (fun y => y.key == x.key) && (!x.hr || l.any (fun y => y.key == x.key && (y.hr && y.r.v == x.r.v)))
theorem any_ofKey (l : List Out) (x : Out) : l.any (fun y => y.key == x.key) = true ↔ ofKey l x.key ≠ [] := by
  rw [List.any_eq_true]
  constructor
  · rintro ⟨y, hy, hk⟩ e
    have : y ∈ ofKey l x.key := List.mem_filter.2 ⟨hy, by simpa using hk⟩
    rw [e] at this; cases this
  · intro h
    obtain ⟨y, hy⟩ := List.exists_mem_of_ne_nil _ h
    obtain ⟨h1, h2⟩ := List.mem_filter.1 hy
    exact ⟨y, h1, by simpa using h2⟩
theorem any_right {l : List Out} {x : Out} {a : GS} (h : RepA a (ofKey l x.key)) : l.any (fun y => y.key == x.key && (y.hr && y.r.v == x.r.v)) = true ↔ x.r.v ∈ a.right := by
  rw [List.any_eq_true, h.perm.mem_iff]
  constructor
  · rintro ⟨y, hy, hk⟩
    simp only [Bool.and_eq_true, beq_iff_eq] at hk
    obtain ⟨k1, k2, k3⟩ := hk
    exact List.mem_map.2 ⟨y, List.mem_filter.2 ⟨List.mem_filter.2 ⟨hy, by simpa using k1⟩, k2⟩, k3⟩
  · intro h
    obtain ⟨y, hy, hv⟩ := List.mem_map.1 h
    obtain ⟨h1, h2⟩ := List.mem_filter.1 hy
    obtain ⟨h3, h4⟩ := List.mem_filter.1 h1
    exact ⟨y, h3, by simp only [Bool.and_eq_true, beq_iff_eq]; exact ⟨by simpa using h4, h2, hv⟩⟩

theorem gp_less {w wr : World} {A n : Nat} {l : List Out} (h : GP w wr A (RepAll · l) l n) (hn : n < wr.heap.size) (x : Out) (hx : x.ok) (hl : l.length < 1000000) (hok : okB l x = true) :
    Calls Tryd.prog 13 #[.pointer (some ⟨A, 0, none⟩), encC x true] wr fun e w' => e = .returned .nilIface ∧ GP w w' A (fun ents => x ∈ l → RepAll ents (l.erase x)) l n ∧ w'.heap[n]? = wr.heap[n]? := by
  obtain ⟨⟨D, ents, v, h1, h2, h3, h4, h5, h6, h7⟩, h8, h9⟩ := h
  unfold okB at hok
  rw [Bool.and_eq_true, Bool.or_eq_true] at hok
  obtain ⟨k1, k2⟩ := hok
  have k1 := (any_ofKey l x).1 k1
  have hr := h2 x.key
  cases ha : st ents x.key with
  | none => rw [ha] at hr; exact absurd hr k1
  | some a =>
    rw [ha] at hr
    have hb := h2.bound ha
    have hin : x.hr = true → x.r.v ∈ a.right := fun hh => (any_right hr.2).1 (k2.resolve_left (by rw [hh]; decide))
    exact (grpLess_c A 0 D ents x wr h1 hx a ha (by omega) (by omega) (by omega) hin).mono fun e w' ⟨he, D', ents', g1, g2, g3⟩ =>
      ⟨he, GP.step (R := (RepAll · l)) h1 h3 h4 h5 h6 hn h7 h8 h9 g1 (fun hm => h2.less (List.perm_cons_erase hm) ha g3) g2⟩
theorem gp_none {w wr : World} {A n : Nat} {l : List Out} (h : GP w wr A (RepAll · l) l n) (hn : n < wr.heap.size) (x : Out) (hx : x.ok) (hl : l.length < 1000000) (hok : okB l x = false) :
    Calls Tryd.prog 13 #[.pointer (some ⟨A, 0, none⟩), encC x true] wr fun e w' => e = .returned (.iface 30 (.int .i64 8)) ∧ GP w w' A (RepAll · l) l n ∧ w'.heap[n]? = wr.heap[n]? := by
  have hG := h
  obtain ⟨⟨D, ents, v, h1, h2, h3, h4, h5, h6, h7⟩, h8, h9⟩ := h
  refine (grpNone_c A 0 D ents x wr h1 hx (fun a ha => ?_)).mono fun e w' ⟨he, hx⟩ => ⟨he, hG.of hx, hx.block n hn id⟩
  have hb := h2.bound ha
  have hr := h2 x.key
  rw [ha] at hr
  have k1 := (any_ofKey l x).2 hr.1
  unfold okB at hok
  rw [k1, Bool.true_and, Bool.or_eq_false_iff] at hok
  refine ⟨by omega, by simpa using hok.1, fun hm => ?_⟩
  rw [(any_right hr.2).2 hm] at hok
  exact absurd hok.2 (by decide)

/-- One more is held. -/
theorem gp_append {w wr : World} {A n0 : Nat} {R : List Ent → Prop} {l : List Out} (h : GP w wr A R l n0) (x : Out) (hl : l.length < 1000000) :
    ∃ v p n cap w', wr.cell? ⟨A + 1, 0, none⟩ = some v ∧ (∃ p0 c0, v = .slice p0 l.length c0) ∧
      (Builtin.append_ #[41, 41] 41 #[v, .slice (some ⟨wr.heap.size, 0, none⟩) 1 1]).run Tryd.prog (wr.alloc (.cells #[.int .i64 x.key, .int .i64 x.l.k, .int .i64 x.l.t, .int .i64 x.l.v, .int .i64 x.r.k, .int .i64 x.r.t, .int .i64 x.r.v, .bool x.hl, .bool x.hr] 45)) = .ok (.slice p n cap) w' ∧
      w'.cell? ⟨A + 1, 0, none⟩ = some v ∧ w'.frozen? ⟨A + 1, 0, none⟩ = false ∧ GP w (w'.setCell ⟨A + 1, 0, none⟩ (.slice p n cap)) A R (l ++ [x]) n0 := by
  obtain ⟨⟨D, ents, v, h1, h2, h3, h4, h5, h6, h7⟩, h8, h9⟩ := h
  have hA : A + 1 < wr.heap.size := cell_lt' h3
  have hb := BoxO.mk' wr x 45
  have x1 : Ext wr (wr.alloc (.cells #[.int .i64 x.key, .int .i64 x.l.k, .int .i64 x.l.t, .int .i64 x.l.v, .int .i64 x.r.k, .int .i64 x.r.t, .int .i64 x.r.v, .bool x.hl, .bool x.hr] 45)) := (ExtM.refl _).alloc _
  have hs1 : (wr.alloc (.cells #[.int .i64 x.key, .int .i64 x.l.k, .int .i64 x.l.t, .int .i64 x.l.v, .int .i64 x.r.k, .int .i64 x.r.t, .int .i64 x.r.v, .bool x.hl, .bool x.hr] 45)).heap.size = wr.heap.size + 1 := World.size_alloc _ _
  have ho1 := ownsRow_ext h5 x1 (fun _ _ => id)
  generalize wr.alloc (.cells #[.int .i64 x.key, .int .i64 x.l.k, .int .i64 x.l.t, .int .i64 x.l.v, .int .i64 x.r.k, .int .i64 x.r.t, .int .i64 x.r.v, .bool x.hl, .bool x.hr] 45) = W at *
  obtain ⟨p, n, cap, w', happ, hown, hgr, hloc⟩ := run_appendOs W A v l [x] ⟨wr.heap.size, 0, none⟩ 1 41 ho1 (fun j u hj => by
    have hj' : j < 9 := by have := (List.getElem?_eq_some_iff.1 hj).1; rw [ocells_len] at this; simpa using this
    have e1 : (⟨wr.heap.size, 0, none⟩ : Addr).add j = ⟨wr.heap.size, j, none⟩ := by unfold Addr.add; split <;> simp_all
    rw [e1, hb.cells j hj', ← hj]
    simp) (by simp; omega) (by omega)
  obtain ⟨p0, c0, hv, -, -⟩ := OutsOf.own h5 rfl
  have hgA : ∀ k, v.ownBlock = some k → A ≤ k ∧ k < wr.heap.size := fun k hk => ownsRow_lt h5 k hk
  have hX : ExtM (fun k => v.ownBlock = some k) wr w' := ⟨hgr.os.trans x1.os, hgr.tape.trans x1.tape, hgr.output.trans x1.output, Nat.le_trans x1.size hgr.size, fun k hk hn =>
    (hgr.block k (Nat.lt_of_lt_of_le hk x1.size) (fun e => hn e.symm)).trans (x1.block k hk id)⟩
  have hXs : ExtM (fun k => k = A + 1 ∨ v.ownBlock = some k) wr (w'.setCell ⟨A + 1, 0, none⟩ (.slice p n cap)) := ExtM.setCell (ExtM.mono hX (fun _ _ h => .inr h)) (.inr (.inl rfl)) _
  have c1 : w'.cell? ⟨A + 1, 0, none⟩ = some v := (hX.cell (p := ⟨A + 1, 0, none⟩) hA h7).trans h3
  have f1 : w'.frozen? ⟨A + 1, 0, none⟩ = false := (hX.frozen (p := ⟨A + 1, 0, none⟩) hA h7).trans h4
  have hvn : ∀ k, (Value.slice p n cap).ownBlock = some k → v.ownBlock = some k ∨ wr.heap.size < k := fun k hk => by
    rcases hloc with h | h
    · exact .inl (h ▸ hk)
    · rw [h] at hk
      have := Option.some.inj hk
      exact .inr (by omega)
  have hv7 : (Value.slice p n cap).ownBlock ≠ some (A + 1) := fun e => by
    rcases hvn _ e with h | h
    · exact h7 h
    · have hA' : A + 1 < wr.heap.size := hA
      omega
  refine ⟨v, p, n, cap, w', h3, ⟨p0, c0, hv⟩, happ, c1, f1, ⟨⟨D, ents, .slice p n cap, h1.of hXs (fun k hk h => ?_), h2, by go_simp, by go_simp, ?_, fun k hk => ?_, hv7⟩, ?_, h9⟩⟩
  · rcases h with h | h
    · exact (h6 k hk).2.1 h
    · exact (h6 k hk).2.2.1 h
  · exact ownsRow_ext hown (ExtM.setCell (M := fun k => k = A + 1) (ExtM.refl w') (p := ⟨A + 1, 0, none⟩) (.inr rfl) (.slice p n cap)) (fun k hk e => hv7 (by rw [hk, e]))
  · refine ⟨(h6 k hk).1, (h6 k hk).2.1, fun e => ?_, (h6 k hk).2.2.2⟩
    rcases hvn _ e with h | h
    · exact (h6 k hk).2.2.1 h
    · have := h1.foot k hk; omega
  · exact ⟨hXs.os.trans h8.os, hXs.tape.trans h8.tape, hXs.output.trans h8.output, Nat.le_trans h8.size hXs.size, fun k hk _ => (hXs.block k (Nat.lt_of_lt_of_le hk h8.size) (fun h => by
      rcases h with h | h
      · omega
      · have := (hgA k h).1; omega)).trans (h8.block k hk id)⟩

/-- Behind 'drop'. -/
theorem gp_dropped {w wr w' : World} {A n : Nat} {l : List Out} {x : Out} (h : GP w wr A (fun ents => x ∈ l → RepAll ents (l.erase x)) l n) (hd : Dropped wr w' (A + 1) wr.heap.size l x) (hx : x ∈ l) : GP w w' A (RepAll · (l.erase x)) (l.erase x) n := by
  obtain ⟨⟨D, ents, v, h1, h2, h3, h4, h5, h6, h7⟩, h8, h9⟩ := h
  have hA : A + 1 < wr.heap.size := cell_lt' h3
  rcases hd with ⟨hn, -⟩ | ⟨-, v', hB, c1, f1, ho⟩
  · exact absurd hx hn
  · refine ⟨⟨D, ents, v', h1.of hB (fun k hk e => (h6 k hk).2.1 e), h2 hx, c1, f1, ownsRow_weaken ho (by omega), fun k hk => ⟨(h6 k hk).1, (h6 k hk).2.1, fun e => ?_, (h6 k hk).2.2.2⟩, fun e => ?_⟩, ?_, h9⟩
    · have := (ownsRow_lt ho k e).1
      have := h1.foot k hk; omega
    · have := (ownsRow_lt ho _ e).1; omega
    · exact ⟨hB.os.trans h8.os, hB.tape.trans h8.tape, hB.output.trans h8.output, Nat.le_trans h8.size hB.size, fun k hk _ => (hB.block k (Nat.lt_of_lt_of_le hk h8.size) (fun h => by have h' : k = A + 1 := h; omega)).trans (h8.block k hk id)⟩
theorem gp_drop {w wr : World} {A n : Nat} {R : List Ent → Prop} {l : List Out} (h : GP w wr A R l n) (x : Out) (hl : l.length < 1000000) :
    Calls Tryd.prog 14 #[.pointer (some ⟨A + 1, 0, none⟩), encO x] wr fun e w' => e = .returned (.bool (decide (x ∈ l))) ∧ Dropped wr w' (A + 1) wr.heap.size l x := by
  obtain ⟨⟨D, ents, v, h1, h2, h3, h4, h5, h6, h7⟩, h8, h9⟩ := h
  exact drop_c (A + 1) A v l x wr h3 h4 h5 hl
/-- The slice in sight. -/
theorem GP.slice {w wr : World} {A n : Nat} {R : List Ent → Prop} {l : List Out} (h : GP w wr A R l n) : ∃ p cap, wr.cell? ⟨A + 1, 0, none⟩ = some (.slice p l.length cap) ∧ OutsOf wr p l := by
  obtain ⟨⟨D, ents, v, h1, h2, h3, h4, h5, h6, h7⟩, h8, h9⟩ := h
  obtain ⟨p, cap, rfl, -, ho⟩ := OutsOf.own h5 rfl
  exact ⟨p, cap, h3, ho⟩
theorem GP.new (w : World) (t u : TypeId) : GP w ((w.alloc (.cells #[.map none] t)).alloc (.cells #[.slice none 0 0] u)) w.heap.size (RepAll · []) [] (w.heap.size + 1) := by
  have hb : GrpIs (w.alloc (.cells #[.map none] t)) w.heap.size 0 none [] := ⟨by go_simp, by rw [Go.RowKit.frozen?_alloc_cells]; simp [World.frozen?], .inl ⟨rfl, rfl⟩, by simp, .nil, by simp, by simp⟩
  refine ⟨⟨none, [], .slice none 0 0, hb.of ((ExtM.refl _).alloc _ : Ext _ _) (fun _ _ => id), RepAll.nil, ?_, ?_, ⟨rfl, .inl ⟨rfl, rfl⟩⟩, fun k hk => ?_, by simp [Value.ownBlock]⟩, ((ExtM.refl _).alloc _).alloc _, Nat.le_refl _⟩
  · have := World.size_alloc w (.cells #[.map none] t)
    rw [← this]; go_simp
  · have := World.size_alloc w (.cells #[.map none] t)
    rw [← this, Go.RowKit.frozen?_alloc_cells]; simp [World.frozen?]
  · rcases hk with rfl | hk | ⟨e, he, -⟩
    · exact ⟨Nat.le_refl _, by omega, by simp [Value.ownBlock], by omega⟩
    · cases hk
    · cases he
/-- Another block that is no one's. -/
theorem GP.box {w wr : World} {A n : Nat} {R : List Ent → Prop} {l : List Out} (h : GP w wr A R l n) (ob : Obj) : GP w (wr.alloc ob) A R l wr.heap.size := by
  obtain ⟨⟨D, ents, v, h1, h2, h3, h4, h5, h6, h7⟩, h8, h9⟩ := h.of ((ExtM.refl wr).alloc ob : Ext wr (wr.alloc ob))
  obtain ⟨⟨D0, ents0, v0, a1, a2, a3, a4, a5, a6, a7⟩, a8, a9⟩ := h
  refine ⟨⟨D0, ents0, v0, a1.of ((ExtM.refl wr).alloc ob : Ext wr (wr.alloc ob)) (fun _ _ => id), a2, ?_, ?_, ownsRow_ext a5 ((ExtM.refl wr).alloc ob : Ext wr (wr.alloc ob)) (fun _ _ => id), fun k hk => ⟨(a6 k hk).1, (a6 k hk).2.1, (a6 k hk).2.2.1, fun e => ?_⟩, a7⟩, h8, h9⟩
  · exact (((ExtM.refl wr).alloc ob : Ext wr (wr.alloc ob)).cell (p := ⟨A + 1, 0, none⟩) (cell_lt' a3) id).trans a3
  · exact (((ExtM.refl wr).alloc ob : Ext wr (wr.alloc ob)).frozen (p := ⟨A + 1, 0, none⟩) (cell_lt' a3) id).trans a4
  · have := a1.foot k hk; omega
theorem GP.any {w wr : World} {A n : Nat} {R : List Ent → Prop} {l : List Out} (h : GP w wr A R l n) : GP w wr A R l (A + 1) := by
  obtain ⟨⟨D, ents, v, h1, h2, h3, h4, h5, h6, h7⟩, h8, h9⟩ := h
  exact ⟨⟨D, ents, v, h1, h2, h3, h4, h5, fun k hk => ⟨(h6 k hk).1, (h6 k hk).2.1, (h6 k hk).2.2.1, (h6 k hk).2.1⟩, h7⟩, h8, h9⟩
theorem GP.to {w wr : World} {A n : Nat} {R R' : List Ent → Prop} {l : List Out} (h : GP w wr A R l n) (hR : ∀ e, R e → R' e) : GP w wr A R' l n := by
  obtain ⟨⟨D, ents, v, h1, h2, h3⟩, h8, h9⟩ := h
  exact ⟨⟨D, ents, v, h1, hR _ h2, h3⟩, h8, h9⟩
end Go.Proofs.YtggjceolhbdalaaDoor
