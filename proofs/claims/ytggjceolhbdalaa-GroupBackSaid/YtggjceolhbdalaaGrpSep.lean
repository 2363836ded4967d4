/- Groups of lists of Outs; two of them apart. -/
import Derived.Test.YtggjceolhbdalaaGrpRep
import Derived.Test.YtggjceolhbdalaaBagBackC
namespace Go.Proofs.Ytggjceolhbdalaa
open Go.RowKit Go.Plan

theorem grpAdd (G o : Nat) (D : Option Nat) (ents : List Ent) (l : List Out) (x : Out) (w : World) (h : GrpIs w G o D ents) (hr : RepAll ents l) (hx : x.ok) (hl : l.length < 1000000) :
    Calls Try.prog 11 #[.pointer (some ⟨G, o, none⟩), encC x false] w fun e w' => e = .returned .nilIface ∧ ∃ D' ents', GrpIs w' G o D' ents' ∧ RepAll ents' (x :: l) ∧ Turned w w' G D D' ents ents' :=
  (grpAdd_c G o D ents x w h hx (fun a ha => by have := hr.bound ha; omega)).mono fun e w' ⟨he, D', ents', h1, h2, h3⟩ => ⟨he, D', ents', h1, hr.add h3, h2⟩
theorem grpLess (G o : Nat) (D : Option Nat) (ents : List Ent) (l : List Out) (x : Out) (w : World) (h : GrpIs w G o D ents) (hr : RepAll ents l) (hx : x ∈ l) (hok : x.ok) (hl : l.length < 1000000) :
    Calls Try.prog 11 #[.pointer (some ⟨G, o, none⟩), encC x true] w fun e w' => e = .returned .nilIface ∧ ∃ D' ents', GrpIs w' G o D' ents' ∧ RepAll ents' (l.erase x) ∧ Turned w w' G D D' ents ents' := by
  obtain ⟨a, ha, hin⟩ := hr.mem hx
  have hb := hr.bound ha
  exact (grpLess_c G o D ents x w h hok a ha (by omega) (by omega) (by omega) hin).mono fun e w' ⟨he, D', ents', h1, h2, h3⟩ => ⟨he, D', ents', h1, hr.less (List.perm_cons_erase hx) ha h3, h2⟩
theorem grpAllL (G o : Nat) (D : Option Nat) (ents : List Ent) (l : List Out) (w : World) (h : GrpIs w G o D ents) (hr : RepAll ents l) (hl : l.length < 1000000) :
    Calls Try.prog 12 #[.pointer (some ⟨G, o, none⟩)] w (GrpsV w (allG ents)) :=
  grpAll G o D ents w h (by have := hr.few h.nodup; omega) (fun e he => by have := ent_bound h hr e he; omega)

theorem GrpIs.new (w : World) (t : TypeId) : GrpIs (w.alloc (.cells #[.map none] t)) w.heap.size 0 none [] :=
  ⟨by go_simp, by rw [Go.RowKit.frozen?_alloc_cells]; simp [World.frozen?], .inl ⟨rfl, rfl⟩, by simp, .nil, by simp, by simp⟩

theorem turned_ext {w0 w w' : World} {G A : Nat} {D D' : Option Nat} {ents ents' : List Ent} (ht : Turned w w' G D D' ents ents') (hx : Ext w0 w) (hA : w0.heap.size ≤ A) (hf : ∀ k, grpM G D ents k → A ≤ k) : Ext w0 w' :=
  ⟨ht.ext.os.trans hx.os, ht.ext.tape.trans hx.tape, ht.ext.output.trans hx.output, Nat.le_trans hx.size ht.ext.size, fun k hk _ => (ht.ext.block k (Nat.lt_of_lt_of_le hk hx.size) (fun h => by have := hf k h; omega)).trans (hx.block k hk id)⟩
theorem turned_foot {w w' : World} {G A : Nat} {D D' : Option Nat} {ents ents' : List Ent} (ht : Turned w w' G D D' ents ents') (hA : A ≤ w.heap.size) (hf : ∀ k, grpM G D ents k → A ≤ k) : ∀ k, grpM G D' ents' k → A ≤ k := fun k hk => by
  rcases ht.foot k hk with h | h
  · exact hf k h
  · omega

/-- Two groups of the call's own, at A and A + 1: what these come to. -/
structure TwoG (w wr : World) (A : Nat) (p q : List Out) : Prop where
  ex : ∃ DA eA DB eB, GrpIs wr A 0 DA eA ∧ RepAll eA p ∧ GrpIs wr (A + 1) 0 DB eB ∧ RepAll eB q ∧ (∀ k, grpM A DA eA k → A ≤ k) ∧ (∀ k, grpM (A + 1) DB eB k → A ≤ k) ∧ ∀ k, grpM A DA eA k → ¬ grpM (A + 1) DB eB k
  ext : Ext w wr
  low : w.heap.size ≤ A
theorem TwoG.perm {w wr : World} {A : Nat} {p q p' q' : List Out} (h : TwoG w wr A p q) (hp : p.Perm p') (hq : q.Perm q') : TwoG w wr A p' q' := by
  obtain ⟨⟨DA, eA, DB, eB, h1, h2, h3, h4, h5⟩, h6, h7⟩ := h
  exact ⟨⟨DA, eA, DB, eB, h1, h2.of_perm hp, h3, h4.of_perm hq, h5⟩, h6, h7⟩
theorem TwoG.of {w wr w' : World} {A : Nat} {p q : List Out} (h : TwoG w wr A p q) (hx : Ext wr w') : TwoG w w' A p q := by
  obtain ⟨⟨DA, eA, DB, eB, h1, h2, h3, h4, h5⟩, h6, h7⟩ := h
  exact ⟨⟨DA, eA, DB, eB, h1.of hx (fun _ _ => id), h2, h3.of hx (fun _ _ => id), h4, h5⟩, ExtM.trans _ _ _ h6 hx, h7⟩
theorem TwoG.size {w wr : World} {A : Nat} {p q : List Out} (h : TwoG w wr A p q) : A + 1 < wr.heap.size := by
  obtain ⟨⟨DA, eA, DB, eB, h1, h2, h3, h4, h5⟩, h6, h7⟩ := h
  exact h3.ltG
theorem twoG_addA {w wr : World} {A : Nat} {p q : List Out} (h : TwoG w wr A p q) (x : Out) (hx : x.ok) (hl : p.length < 1000000) :
    Calls Try.prog 11 #[.pointer (some ⟨A, 0, none⟩), encC x false] wr fun e w' => e = .returned .nilIface ∧ TwoG w w' A (x :: p) q := by
  have hs := h.size
  obtain ⟨⟨DA, eA, DB, eB, h1, h2, h3, h4, h5, h6, h7⟩, h8, h9⟩ := h
  refine (grpAdd A 0 DA eA p x wr h1 h2 hx hl).mono fun e w' ⟨he, D', e', g1, g2, ht⟩ => ⟨he, ⟨⟨D', e', DB, eB, g1, g2, h3.of ht.ext (fun k hk hb => h7 k hb hk), h4, turned_foot ht (by omega) h5, h6, fun k hk hb => ?_⟩, turned_ext ht h8 h9 h5, h9⟩⟩
  rcases ht.foot k hk with h | h
  · exact h7 k h hb
  · have := h3.foot k hb; omega
theorem twoG_stepB {w wr w' : World} {A : Nat} {p q q' : List Out} {DA DB D' : Option Nat} {eA eB e' : List Ent} (h1 : GrpIs wr A 0 DA eA) (h2 : RepAll eA p) (h3 : GrpIs wr (A + 1) 0 DB eB) (h5 : ∀ k, grpM A DA eA k → A ≤ k) (h6 : ∀ k, grpM (A + 1) DB eB k → A ≤ k) (h7 : ∀ k, grpM A DA eA k → ¬ grpM (A + 1) DB eB k)
    (h8 : Ext w wr) (h9 : w.heap.size ≤ A) (g1 : GrpIs w' (A + 1) 0 D' e') (g2 : RepAll e' q') (ht : Turned wr w' (A + 1) DB D' eB e') : TwoG w w' A p q' := by
  have hs := h3.ltG
  refine ⟨⟨DA, eA, D', e', h1.of ht.ext h7, h2, g1, g2, h5, turned_foot ht (by omega) h6, fun k hk hb => ?_⟩, turned_ext ht h8 h9 h6, h9⟩
  rcases ht.foot k hb with h | h
  · exact h7 k hk h
  · have := h1.foot k hk; omega
theorem twoG_addB {w wr : World} {A : Nat} {p q : List Out} (h : TwoG w wr A p q) (x : Out) (hx : x.ok) (hl : q.length < 1000000) :
    Calls Try.prog 11 #[.pointer (some ⟨A + 1, 0, none⟩), encC x false] wr fun e w' => e = .returned .nilIface ∧ TwoG w w' A p (x :: q) := by
  obtain ⟨⟨DA, eA, DB, eB, h1, h2, h3, h4, h5, h6, h7⟩, h8, h9⟩ := h
  exact (grpAdd (A + 1) 0 DB eB q x wr h3 h4 hx hl).mono fun e w' ⟨he, D', e', g1, g2, ht⟩ => ⟨he, twoG_stepB (q := q) h1 h2 h3 h5 h6 h7 h8 h9 g1 g2 ht⟩
theorem twoG_lessB {w wr : World} {A : Nat} {p q : List Out} (h : TwoG w wr A p q) (x : Out) (hx : x ∈ q) (hok : x.ok) (hl : q.length < 1000000) :
    Calls Try.prog 11 #[.pointer (some ⟨A + 1, 0, none⟩), encC x true] wr fun e w' => e = .returned .nilIface ∧ TwoG w w' A p (q.erase x) := by
  obtain ⟨⟨DA, eA, DB, eB, h1, h2, h3, h4, h5, h6, h7⟩, h8, h9⟩ := h
  exact (grpLess (A + 1) 0 DB eB q x wr h3 h4 hx hok hl).mono fun e w' ⟨he, D', e', g1, g2, ht⟩ => ⟨he, twoG_stepB (q := q) h1 h2 h3 h5 h6 h7 h8 h9 g1 g2 ht⟩
theorem TwoG.new (w w1 : World) (hx : Ext w w1) (t : TypeId) : TwoG w ((w1.alloc (.cells #[.map none] t)).alloc (.cells #[.map none] t)) w1.heap.size [] [] := by
  refine ⟨⟨none, [], none, [], (GrpIs.new w1 t).of ((ExtM.refl _).alloc _ : Ext _ _) (fun _ _ => id), RepAll.nil, ?_, RepAll.nil, ?_, ?_, ?_⟩, (hx.alloc _).alloc _, hx.size⟩
  · have := GrpIs.new (w1.alloc (.cells #[.map none] t)) t
    rwa [World.size_alloc] at this
  · intro k hk
    rcases hk with rfl | hk | ⟨e, he, -⟩
    · exact Nat.le_refl _
    · cases hk
    · cases he
  · intro k hk
    rcases hk with rfl | hk | ⟨e, he, -⟩
    · exact Nat.le_succ _
    · cases hk
    · cases he
  · intro k hk hb
    rcases hk with rfl | hk | ⟨e, he, -⟩
    · rcases hb with hb | hb | ⟨e, he, -⟩
      · omega
      · cases hb
      · cases he
    · cases hk
    · cases he
theorem twoG_allA {w wr : World} {A : Nat} {p q : List Out} (h : TwoG w wr A p q) (hpq : p.Perm q) (hl : p.length < 1000000) :
    ∃ rows, rows.length ≤ p.length ∧ Calls Try.prog 12 #[.pointer (some ⟨A, 0, none⟩)] wr (GrpsV wr rows) ∧ ∀ w', Ext wr w' → Calls Try.prog 12 #[.pointer (some ⟨A + 1, 0, none⟩)] w' (GrpsV w' rows) := by
  have hlq := hpq.length_eq
  obtain ⟨⟨DA, eA, DB, eB, h1, h2, h3, h4, h5, h6, h7⟩, h8, h9⟩ := h
  refine ⟨allG eA, by unfold allG; rw [List.length_map, sortI_length, List.length_map]; exact h2.few h1.nodup, grpAllL A 0 DA eA p wr h1 h2 hl, fun w' hx => ?_⟩
  rw [allG_eq (h2.st_eq h4 hpq) h1.nodup h3.nodup]
  exact grpAllL (A + 1) 0 DB eB q w' (h3.of hx (fun _ _ => id)) h4 (by omega)
theorem neq_grp_self (a : GRow) (w : World) : (binOp .neq 46 (.agg #[.int .i64 a.key, .int .i64 a.cnt, .int .i64 a.sum, .int .i64 a.least, .int .i64 a.most, .bool a.some]) (.agg #[.int .i64 a.key, .int .i64 a.cnt, .int .i64 a.sum, .int .i64 a.least, .int .i64 a.most, .bool a.some])).run Try.prog w = .ok (.bool false) w := by
  obtain ⟨a1, a2, a3, a4, a5, a6⟩ := a
  go_simp
end Go.Proofs.Ytggjceolhbdalaa
