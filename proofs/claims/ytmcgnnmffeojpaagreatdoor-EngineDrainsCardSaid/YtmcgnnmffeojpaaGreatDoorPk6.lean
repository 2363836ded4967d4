/- What the functions of the package bag compute. -/
import Derived.Test.YtmcgnnmffeojpaaGreatDoorPk5
import Derived.WalkSpells
import Derived.Carry
import Derived.Lib.Hide
namespace Go.Proofs.YtmcgnnmffeojpaaGreatDoor
open Go.RowKit Go.Plan

/-- A bag lies at ⟨B, o⟩, its map (if it has one yet) in block D: it has these. -/
structure BagIs (w : World) (B o : Nat) (D : Option Nat) (l : List Out) : Prop where
  c0 : w.cell? ⟨B, o, none⟩ = some (.map D)
  c1 : w.cell? ⟨B, o + 1, none⟩ = some (.int .i64 (l.length : Int))
  f0 : w.frozen? ⟨B, o, none⟩ = false
  f1 : w.frozen? ⟨B, o + 1, none⟩ = false
  ok : ∀ x ∈ l, x.ok
  mp : (D = none ∧ l = []) ∨ ∃ d m, D = some d ∧ d ≠ B ∧ MapIs Tryz.prog 58 encO w d m ∧ Counts m l

theorem cell_lt' {w : World} {a : Addr} {v : Value} (h : w.cell? a = some v) : a.block < w.heap.size := by
  unfold World.cell? at h
  split at h
  · rename_i hb; exact (Array.getElem?_eq_some_iff.1 hb).1
  · cases h
theorem BagIs.ltB {w : World} {B o : Nat} {D : Option Nat} {l : List Out} (h : BagIs w B o D l) : B < w.heap.size := cell_lt' h.c0
theorem BagIs.of {M : Nat → Prop} {w w' : World} {B o : Nat} {D : Option Nat} {l : List Out} (h : BagIs w B o D l) (hx : ExtM M w w') (hB : ¬ M B) (hD : ∀ d, D = some d → ¬ M d) : BagIs w' B o D l where
  c0 := (hx.cell (p := ⟨B, o, none⟩) h.ltB hB).trans h.c0
  c1 := (hx.cell (p := ⟨B, o + 1, none⟩) h.ltB hB).trans h.c1
  f0 := (hx.frozen (p := ⟨B, o, none⟩) h.ltB hB).trans h.f0
  f1 := (hx.frozen (p := ⟨B, o + 1, none⟩) h.ltB hB).trans h.f1
  ok := h.ok
  mp := by
    rcases h.mp with h | ⟨d, m, h1, h2, h3, h4⟩
    · exact .inl h
    · exact .inr ⟨d, m, h1, h2, h3.of hx (hD d h1), h4⟩

/-- What an apply may turn of old memory: the bag's cells, its map. -/
def bagM (B : Nat) (D : Option Nat) (k : Nat) : Prop := k = B ∨ D = some k

/-- A change as a value. -/
def encC (x : Out) (g : Bool) : Value := .agg #[.int .i64 x.key, .int .i64 x.l.k, .int .i64 x.l.t, .int .i64 x.l.v, .int .i64 x.r.k, .int .i64 x.r.t, .int .i64 x.r.v, .bool x.hl, .bool x.hr, .bool g]

theorem encO_run (x : Out) : encO x = .agg #[.int .i64 x.key, .int .i64 x.l.k, .int .i64 x.l.t, .int .i64 x.l.v, .int .i64 x.r.k, .int .i64 x.r.t, .int .i64 x.r.v, .bool x.hl, .bool x.hr] := rfl

/-- The cells of a change that lies in a box of its own. -/
structure BoxC (w : World) (n : Nat) (x : Out) (g : Bool) : Prop where
  e0 : w.cell? ⟨n, 0, none⟩ = some (.int .i64 x.key)
  e1 : w.cell? ⟨n, 1, none⟩ = some (.int .i64 x.l.k)
  e2 : w.cell? ⟨n, 2, none⟩ = some (.int .i64 x.l.t)
  e3 : w.cell? ⟨n, 3, none⟩ = some (.int .i64 x.l.v)
  e4 : w.cell? ⟨n, 4, none⟩ = some (.int .i64 x.r.k)
  e5 : w.cell? ⟨n, 5, none⟩ = some (.int .i64 x.r.t)
  e6 : w.cell? ⟨n, 6, none⟩ = some (.int .i64 x.r.v)
  e7 : w.cell? ⟨n, 7, none⟩ = some (.bool x.hl)
  e8 : w.cell? ⟨n, 8, none⟩ = some (.bool x.hr)
  e9 : w.cell? ⟨n, 9, none⟩ = some (.bool g)
theorem BoxC.mk' (w : World) (x : Out) (g : Bool) (t : TypeId) : BoxC (w.alloc (.cells #[.int .i64 x.key, .int .i64 x.l.k, .int .i64 x.l.t, .int .i64 x.l.v, .int .i64 x.r.k, .int .i64 x.r.t, .int .i64 x.r.v, .bool x.hl, .bool x.hr, .bool g] t)) w.heap.size x g := by
  constructor <;> go_simp
theorem BoxC.of {M : Nat → Prop} {w w' : World} {n : Nat} {x : Out} {g : Bool} (h : BoxC w n x g) (hx : ExtM M w w') (hn : ¬ M n) : BoxC w' n x g := by
  have hl : n < w.heap.size := cell_lt' h.e0
  have r : ∀ i, w'.cell? ⟨n, i, none⟩ = w.cell? ⟨n, i, none⟩ := fun i => hx.cell (p := ⟨n, i, none⟩) hl hn
  exact ⟨(r 0).trans h.e0, (r 1).trans h.e1, (r 2).trans h.e2, (r 3).trans h.e3, (r 4).trans h.e4, (r 5).trans h.e5, (r 6).trans h.e6, (r 7).trans h.e7, (r 8).trans h.e8, (r 9).trans h.e9⟩

/-- Of block B only the bag's cells have turned. -/
structure OnlyAt (B o : Nat) (w w' : World) : Prop where
  cell : ∀ q, q ≠ o → q ≠ o + 1 → w'.cell? ⟨B, q, none⟩ = w.cell? ⟨B, q, none⟩
  frz : ∀ q, w'.frozen? ⟨B, q, none⟩ = w.frozen? ⟨B, q, none⟩
theorem OnlyAt.refl {B o : Nat} (w : World) : OnlyAt B o w w := ⟨fun _ _ _ => rfl, fun _ => rfl⟩
theorem OnlyAt.trans {B o : Nat} {a b c : World} (h : OnlyAt B o a b) (k : OnlyAt B o b c) : OnlyAt B o a c := ⟨fun q h0 h1 => (k.cell q h0 h1).trans (h.cell q h0 h1), fun q => (k.frz q).trans (h.frz q)⟩
theorem OnlyAt.step {F : Nat → Prop} {B o : Nat} {a b c : World} (h : OnlyAt B o a b) (hx : ExtM F b c) (hB : B < b.heap.size) (hF : ¬ F B) : OnlyAt B o a c :=
  h.trans ⟨fun q _ _ => hx.cell (p := ⟨B, q, none⟩) hB hF, fun q => hx.frozen (p := ⟨B, q, none⟩) hB hF⟩
theorem OnlyAt.set {B o k : Nat} {a b : World} (h : OnlyAt B o a b) (hk : k = o ∨ k = o + 1) (v : Value) : OnlyAt B o a (b.setCell ⟨B, k, none⟩ v) :=
  h.trans ⟨fun q h0 h1 => World.cell?_setCell_other _ _ _ _ (by intro e; simp only [Addr.mk.injEq, and_true, true_and] at e; omega), fun q => World.frozen?_setCell _ _ _ _⟩

/-- The size's store closes an apply. -/
theorem BagIs.store {w : World} {B o d : Nat} {v : Value} {m : List (Out × Value)} {l : List Out} (c0 : w.cell? ⟨B, o, none⟩ = some (.map (some d))) (c1 : w.cell? ⟨B, o + 1, none⟩ = some v) (f0 : w.frozen? ⟨B, o, none⟩ = false) (f1 : w.frozen? ⟨B, o + 1, none⟩ = false)
    (ok : ∀ x ∈ l, x.ok) (hd : ¬ B = d) (hm : MapIs Tryz.prog 58 encO w d m) (hc : Counts m l) (n : Int) (hn : n = (l.length : Int)) : BagIs (w.setCell ⟨B, o + 1, none⟩ (.int .i64 n)) B o (some d) l := by
  subst hn
  have hm' : MapIs Tryz.prog 58 encO (w.setCell ⟨B, o + 1, none⟩ (.int .i64 (l.length : Int))) d m := hm.keep (Below.heap_setCell _ _ _ _ (fun e => hd e.symm))
  exact ⟨by go_simp, by go_simp, by go_simp, by go_simp, ok, .inr ⟨d, m, rfl, fun e => hd e.symm, hm', hc⟩⟩

/-- The cells of a bag. -/
structure BagC (w : World) (B o : Nat) (D : Option Nat) (n : Int) : Prop where
  c0 : w.cell? ⟨B, o, none⟩ = some (.map D)
  c1 : w.cell? ⟨B, o + 1, none⟩ = some (.int .i64 n)
  f0 : w.frozen? ⟨B, o, none⟩ = false
  f1 : w.frozen? ⟨B, o + 1, none⟩ = false
theorem BagC.lt {w : World} {B o : Nat} {D : Option Nat} {n : Int} (h : BagC w B o D n) : B < w.heap.size := cell_lt' h.c0
theorem BagC.of {M : Nat → Prop} {w w' : World} {B o : Nat} {D : Option Nat} {n : Int} (h : BagC w B o D n) (hx : ExtM M w w') (hB : ¬ M B) : BagC w' B o D n where
  c0 := (hx.cell (p := ⟨B, o, none⟩) h.lt hB).trans h.c0
  c1 := (hx.cell (p := ⟨B, o + 1, none⟩) h.lt hB).trans h.c1
  f0 := (hx.frozen (p := ⟨B, o, none⟩) h.lt hB).trans h.f0
  f1 := (hx.frozen (p := ⟨B, o + 1, none⟩) h.lt hB).trans h.f1
theorem BagIs.cells {w : World} {B o : Nat} {D : Option Nat} {l : List Out} (h : BagIs w B o D l) : BagC w B o D l.length := ⟨h.c0, h.c1, h.f0, h.f1⟩
theorem BagIs.store' {w : World} {B o d : Nat} {n0 : Int} {m : List (Out × Value)} {l : List Out} (hb : BagC w B o (some d) n0)
    (ok : ∀ x ∈ l, x.ok) (hd : ¬ B = d) (hm : MapIs Tryz.prog 58 encO w d m) (hc : Counts m l) (n : Int) (hn : n = (l.length : Int)) : BagIs (w.setCell ⟨B, o + 1, none⟩ (.int .i64 n)) B o (some d) l :=
  BagIs.store hb.c0 hb.c1 hb.f0 hb.f1 ok hd hm hc n hn

set_option maxRecDepth 100000 in
set_option maxHeartbeats 2000000 in
theorem bagAddO_c (B o d : Nat) (l : List Out) (x : Out) (w : World) (h : BagIs w B o (some d) l) (hx : x.ok) (hl : l.length < 1000000000) :
    Calls Tryz.prog 82 #[.pointer (some ⟨B, o, none⟩), encC x false] w fun e w' => e = .returned .nilIface ∧ ExtM (bagM B (some d)) w w' ∧ BagIs w' B o (some d) (x :: l) ∧ OnlyAt B o w w' := by
  have hne := fun w => run_eql_map_nil (P := Tryz.prog) w 36 58 3 (some d) Tryz.underlying36
  have hB := h.ltB
  obtain ⟨d', m, hd, hdB, hm, hcnt⟩ := h.mp.resolve_left (by rintro ⟨h, -⟩; cases h)
  obtain rfl : d = d' := Option.some.inj hd
  have hdw := hm.lt
  have hok := h.ok
  have hbc := h.cells
  obtain ⟨c0, c1, f0, f1⟩ := id hbc
  clear h hd
  unfold encC
  go_enter Tryz.func82, Tryz.ntmps82
  go_wp2_with fail
  have bx := BoxC.mk' w x false 72
  have x1 : Ext w (w.alloc (.cells #[.int .i64 x.key, .int .i64 x.l.k, .int .i64 x.l.t, .int .i64 x.l.v, .int .i64 x.r.k, .int .i64 x.r.t, .int .i64 x.r.v, .bool x.hl, .bool x.hr, .bool false] 72)) := (ExtM.refl _).alloc _
  replace hbc := hbc.of x1 id
  replace hm := hm.of x1 id
  clear c0 c1 f0 f1
  generalize w.alloc (.cells #[.int .i64 x.key, .int .i64 x.l.k, .int .i64 x.l.t, .int .i64 x.l.v, .int .i64 x.r.k, .int .i64 x.r.t, .int .i64 x.r.v, .bool x.hl, .bool x.hr, .bool false] 72) = w1 at *
  have hN : ¬ w.heap.size = d := by omega
  have hBn : ¬ B = d := fun e => hdB e.symm
  have hBN : ¬ B = w.heap.size := by omega
  generalize hn : w.heap.size = n at *
  have hlk := (hm.of (ExtM.drew (ExtM.refl w1) : Ext w1 w1.drew) id).run_look false outLaw encO_inj Tryz.underlying36 zeroInt x (keyO x hx)
  obtain ⟨st, w2, hme, x2, z2, hlk2, hst⟩ := (hm.of (ExtM.drew (ExtM.refl w1) : Ext w1 w1.drew) id).run_entry outLaw encO_inj Tryz.underlying36 zeroInt x (keyO x hx)
  obtain ⟨w3, hst3, x3, z3, hm3⟩ := hst (.int .i64 ((l.count x : Int) + 1))
  rw [hcnt.getD] at hlk hme hlk2
  simp only [encO_run, Bool.false_eq_true, if_false] at hlk hme hlk2
  have y3 : ExtB d w1 w3 := ExtB.trans _ _ _ (ExtB.of_ext ((ExtM.refl w1).drew)) (ExtB.trans _ _ _ x2 x3)
  have hbc3 := hbc.of y3 hBn
  have bx3 := bx.of y3 hN
  clear z2 z3
  have hcb0 : 0 ≤ ((l.count x : Nat) : Int) := Int.natCast_nonneg _
  have hcb1 : ((l.count x : Nat) : Int) < 1000000000 := by have := List.count_le_length (a := x) (l := l); omega
  have hc3 := hcnt.add x
  generalize ((l.count x : Nat) : Int) = c at *
  have hnl : n < w1.heap.size := cell_lt' bx.e0
  have hB1 := hbc.lt
  obtain ⟨c0, c1, f0, f1⟩ := id hbc
  obtain ⟨e0, e1, e2, e3, e4, e5, e6, e7, e8, e9⟩ := id bx
  refine Plan.begin (Plan.ExtB d) 11 rfl (by kernel_rfl) ?_
  refine Plan.left_q 0 (by rfl) (by kernel_rfl) ?_; go_big_quiet_step (fail); refine wpQuiet_nil ?_
  refine Plan.left_q 1 (by rfl) (by kernel_rfl) ?_; go_big_quiet_step (fail); refine wpQuiet_nil ?_
  refine Plan.left_q 2 (by rfl) (by kernel_rfl) ?_; go_big_quiet_step (fail); refine wpQuiet_nil ?_
  refine Plan.left_q 3 (by rfl) (by kernel_rfl) ?_; go_big_quiet_step (fail); refine wpQuiet_nil ?_
  refine Plan.left_q 4 (by rfl) (by kernel_rfl) ?_; go_big_quiet_step (fail); refine wpQuiet_nil ?_
  refine Plan.left_q 5 (by rfl) (by kernel_rfl) ?_; go_big_quiet_step (fail); refine wpQuiet_nil ?_
  refine Plan.left_two 6 8 (by kernel_rfl) (by rfl) (by rfl) (Plan.plain rfl fun K hK => ?_) (Plan.plain rfl fun K hK => ?_)
  focus
    go_wp2_with (fail)
    refine hK _ _ (ExtM.refl _) ?_
    clear hK K
    refine Plan.left_q 7 (by rfl) (by kernel_rfl) ?_; go_big_quiet_step (fail); refine wpQuiet_nil ?_
    refine Plan.left_one 8 (by kernel_rfl) (by rfl) (Plan.plain rfl fun K hK => ?_)
    go_wp2_with (fail)
    refine hK _ _ (x2) ?_
    clear hK K
    refine Plan.left_q 9 (by rfl) (by kernel_rfl) ?_; go_big_quiet_step (fail); refine wpQuiet_nil ?_
    refine Plan.left_one 10 (by kernel_rfl) (by rfl) (Plan.plain rfl fun K hK => ?_)
    go_wp2_with (fail)
    refine hK _ _ (x3) ?_
    clear hK K
    refine Plan.left_done (by kernel_rfl) ?_
  rotate_left
  focus
    go_wp2_with (fail)
    refine hK _ _ (x2) ?_
    clear hK K
    refine Plan.left_q 9 (by rfl) (by kernel_rfl) ?_; go_big_quiet_step (fail); refine wpQuiet_nil ?_
    refine Plan.left_one 6 (by kernel_rfl) (by rfl) (Plan.plain rfl fun K hK => ?_)
    go_wp2_with (fail)
    refine hK _ _ (ExtM.refl _) ?_
    clear hK K
    refine Plan.left_q 7 (by rfl) (by kernel_rfl) ?_; go_big_quiet_step (fail); refine wpQuiet_nil ?_
    refine Plan.left_one 10 (by kernel_rfl) (by rfl) (Plan.plain rfl fun K hK => ?_)
    go_wp2_with (fail)
    refine hK _ _ (x3) ?_
    clear hK K
    refine Plan.left_done (by kernel_rfl) ?_
  all_goals
    clear hnl hB1 c0 c1 f0 f1 e0 e1 e2 e3 e4 e5 e6 e7 e8 e9
    have hnl : n < w3.heap.size := cell_lt' bx3.e0
    have hB1 := hbc3.lt
    obtain ⟨c0, c1, f0, f1⟩ := id hbc3
    obtain ⟨e0, e1, e2, e3, e4, e5, e6, e7, e8, e9⟩ := id bx3
    go_wp2_with fail
    go_ret
    refine ⟨rfl, ?_, BagIs.store' hbc3 (fun y hy => ?_) hBn hm3 hc3 _ (by simp), (((OnlyAt.refl w).step x1 (by rw [hn]; exact hB) (fun h => h)).step y3 hbc.lt hBn).set (.inr rfl) _⟩
    · exact ExtM.setCell (ExtM.trans _ _ _ (ExtM.mono x1 (fun _ _ h => h.elim)) (ExtM.mono y3 (fun k _ h => .inr (congrArg some h.symm)))) (.inr (.inl rfl)) _
    · rcases List.mem_cons.1 hy with rfl | hy
      · exact hx
      · exact hok y hy

theorem bagAdd_c (B o d : Nat) (l : List Out) (x : Out) (w : World) (h : BagIs w B o (some d) l) (hx : x.ok) (hl : l.length < 1000000000) :
    Calls Tryz.prog 82 #[.pointer (some ⟨B, o, none⟩), encC x false] w fun e w' => e = .returned .nilIface ∧ ExtM (bagM B (some d)) w w' ∧ BagIs w' B o (some d) (x :: l) :=
  (bagAddO_c B o d l x w h hx hl).mono fun _e _w' hh => ⟨hh.1, hh.2.1, hh.2.2.1⟩

set_option maxRecDepth 100000 in
set_option maxHeartbeats 2000000 in
theorem bagAddNilO_c (B o : Nat) (x : Out) (w : World) (h : BagIs w B o none []) (hx : x.ok) :
    Calls Tryz.prog 82 #[.pointer (some ⟨B, o, none⟩), encC x false] w fun e w' => e = .returned .nilIface ∧ ∃ d, w.heap.size ≤ d ∧ ExtM (bagM B none) w w' ∧ BagIs w' B o (some d) [x] ∧ OnlyAt B o w w' := by
  have hne := fun w => run_eql_map_nil (P := Tryz.prog) w 36 58 3 none Tryz.underlying36
  have hmm := @run_makeMap Tryz.prog
  have hB := h.ltB
  obtain ⟨c0, c1, f0, f1⟩ := h.cells
  unfold encC
  go_enter Tryz.func82, Tryz.ntmps82
  go_wp2_with fail
  have xs : ExtM (bagM B none) w (w.setCell ⟨B, o, none⟩ (.map (some (w.heap.size + 1)))) := ExtM.setCell (ExtM.refl _) (.inr (.inl rfl)) _
  have zs : (w.setCell ⟨B, o, none⟩ (.map (some (w.heap.size + 1)))).heap.size = w.heap.size := by simp
  have hbcs : BagC (w.setCell ⟨B, o, none⟩ (.map (some (w.heap.size + 1)))) B o (some (w.heap.size + 1)) 0 := ⟨by go_simp, by go_simp, by go_simp, by go_simp⟩
  have hos : OnlyAt B o w (w.setCell ⟨B, o, none⟩ (.map (some (w.heap.size + 1)))) := (OnlyAt.refl w).set (.inl rfl) _
  clear c0 c1 f0 f1 h
  generalize w.setCell ⟨B, o, none⟩ (.map (some (w.heap.size + 1))) = ws at *
  have bx := BoxC.mk' ws x false 72
  rw [zs] at bx
  have x0 : Ext ws (ws.alloc (.cells #[.int .i64 x.key, .int .i64 x.l.k, .int .i64 x.l.t, .int .i64 x.l.v, .int .i64 x.r.k, .int .i64 x.r.t, .int .i64 x.r.v, .bool x.hl, .bool x.hr, .bool false] 72)) := (ExtM.refl _).alloc _
  have z0 : (ws.alloc (.cells #[.int .i64 x.key, .int .i64 x.l.k, .int .i64 x.l.t, .int .i64 x.l.v, .int .i64 x.r.k, .int .i64 x.r.t, .int .i64 x.r.v, .bool x.hl, .bool x.hr, .bool false] 72)).heap.size = w.heap.size + 1 := by rw [World.size_alloc, zs]
  generalize ws.alloc (.cells #[.int .i64 x.key, .int .i64 x.l.k, .int .i64 x.l.t, .int .i64 x.l.v, .int .i64 x.r.k, .int .i64 x.r.t, .int .i64 x.r.v, .bool x.hl, .bool x.hr, .bool false] 72) = w0 at *
  have hm : MapIs Tryz.prog 58 encO (w0.alloc (.map #[] 0)) w0.heap.size [] := MapIs.made w0
  rw [z0] at hm
  have x1 : Ext w0 (w0.alloc (.map #[] 0)) := (ExtM.refl _).alloc _
  have hbc := (hbcs.of x0 id).of x1 id
  replace bx := bx.of x1 id
  have x01 : ExtM (bagM B none) w (w0.alloc (.map #[] 0)) := ExtM.trans _ _ _ xs (ExtM.trans _ _ _ (ExtM.mono x0 (fun _ _ h => h.elim)) (ExtM.mono x1 (fun _ _ h => h.elim)))
  have hos1 : OnlyAt B o w (w0.alloc (.map #[] 0)) := (hos.step x0 hbcs.lt (fun h => h)).step x1 (hbcs.of x0 id).lt (fun h => h)
  clear hbcs x0 x1 zs z0 xs hos
  generalize w0.alloc (.map #[] 0) = w1 at *
  have hN : ¬ w.heap.size = w.heap.size + 1 := by omega
  have hBn : ¬ B = w.heap.size + 1 := by omega
  have hdn : w.heap.size ≤ w.heap.size + 1 := by omega
  obtain ⟨l, hl0⟩ : ∃ l : List Out, l = [] := ⟨[], rfl⟩
  have hcnt : Counts [] l := hl0 ▸ Counts.nil
  have hl : l.length < 1000000000 := by rw [hl0]; decide
  generalize hd : w.heap.size + 1 = d at *
  generalize hn : w.heap.size = n at *
  clear hd
  have hlk := (hm.of (ExtM.drew (ExtM.refl w1) : Ext w1 w1.drew) id).run_look false outLaw encO_inj Tryz.underlying36 zeroInt x (keyO x hx)
  obtain ⟨st, w2, hme, x2, z2, hlk2, hst⟩ := (hm.of (ExtM.drew (ExtM.refl w1) : Ext w1 w1.drew) id).run_entry outLaw encO_inj Tryz.underlying36 zeroInt x (keyO x hx)
  obtain ⟨w3, hst3, x3, z3, hm3⟩ := hst (.int .i64 ((l.count x : Int) + 1))
  rw [hcnt.getD] at hlk hme hlk2
  simp only [encO_run, Bool.false_eq_true, if_false] at hlk hme hlk2
  have y3 : ExtB d w1 w3 := ExtB.trans _ _ _ (ExtB.of_ext ((ExtM.refl w1).drew)) (ExtB.trans _ _ _ x2 x3)
  have hbc3 := hbc.of y3 hBn
  have bx3 := bx.of y3 hN
  clear z2 z3
  have hcb0 : 0 ≤ ((l.count x : Nat) : Int) := Int.natCast_nonneg _
  have hcb1 : ((l.count x : Nat) : Int) < 1000000000 := by have := List.count_le_length (a := x) (l := l); omega
  have hc3 := hcnt.add x
  have hc0 : ((l.count x : Nat) : Int) = 0 := by rw [hl0]; simp
  rw [hc0] at hlk hme hlk2 hst3 hm3 hc3
  rw [hl0] at hc3
  clear hl0
  clear hcb0 hcb1 hc0
  simp only [Int.zero_add] at hst3 hm3 hc3
  have hnl : n < w1.heap.size := cell_lt' bx.e0
  have hB1 := hbc.lt
  obtain ⟨c0, c1, f0, f1⟩ := id hbc
  obtain ⟨e0, e1, e2, e3, e4, e5, e6, e7, e8, e9⟩ := id bx
  refine Plan.begin (Plan.ExtB d) 11 rfl (by kernel_rfl) ?_
  refine Plan.left_q 0 (by rfl) (by kernel_rfl) ?_; go_big_quiet_step (fail); refine wpQuiet_nil ?_
  refine Plan.left_q 1 (by rfl) (by kernel_rfl) ?_; go_big_quiet_step (fail); refine wpQuiet_nil ?_
  refine Plan.left_q 2 (by rfl) (by kernel_rfl) ?_; go_big_quiet_step (fail); refine wpQuiet_nil ?_
  refine Plan.left_q 3 (by rfl) (by kernel_rfl) ?_; go_big_quiet_step (fail); refine wpQuiet_nil ?_
  refine Plan.left_q 4 (by rfl) (by kernel_rfl) ?_; go_big_quiet_step (fail); refine wpQuiet_nil ?_
  refine Plan.left_q 5 (by rfl) (by kernel_rfl) ?_; go_big_quiet_step (fail); refine wpQuiet_nil ?_
  refine Plan.left_two 6 8 (by kernel_rfl) (by rfl) (by rfl) (Plan.plain rfl fun K hK => ?_) (Plan.plain rfl fun K hK => ?_)
  focus
    go_wp2_with (fail)
    refine hK _ _ (ExtM.refl _) ?_
    clear hK K
    refine Plan.left_q 7 (by rfl) (by kernel_rfl) ?_; go_big_quiet_step (fail); refine wpQuiet_nil ?_
    refine Plan.left_one 8 (by kernel_rfl) (by rfl) (Plan.plain rfl fun K hK => ?_)
    go_wp2_with (fail)
    refine hK _ _ (x2) ?_
    clear hK K
    refine Plan.left_q 9 (by rfl) (by kernel_rfl) ?_; go_big_quiet_step (fail); refine wpQuiet_nil ?_
    refine Plan.left_one 10 (by kernel_rfl) (by rfl) (Plan.plain rfl fun K hK => ?_)
    go_wp2_with (fail)
    refine hK _ _ (x3) ?_
    clear hK K
    refine Plan.left_done (by kernel_rfl) ?_
  rotate_left
  focus
    go_wp2_with (fail)
    refine hK _ _ (x2) ?_
    clear hK K
    refine Plan.left_q 9 (by rfl) (by kernel_rfl) ?_; go_big_quiet_step (fail); refine wpQuiet_nil ?_
    refine Plan.left_one 6 (by kernel_rfl) (by rfl) (Plan.plain rfl fun K hK => ?_)
    go_wp2_with (fail)
    refine hK _ _ (ExtM.refl _) ?_
    clear hK K
    refine Plan.left_q 7 (by rfl) (by kernel_rfl) ?_; go_big_quiet_step (fail); refine wpQuiet_nil ?_
    refine Plan.left_one 10 (by kernel_rfl) (by rfl) (Plan.plain rfl fun K hK => ?_)
    go_wp2_with (fail)
    refine hK _ _ (x3) ?_
    clear hK K
    refine Plan.left_done (by kernel_rfl) ?_
  all_goals
    clear hnl hB1 c0 c1 f0 f1 e0 e1 e2 e3 e4 e5 e6 e7 e8 e9
    have hnl : n < w3.heap.size := cell_lt' bx3.e0
    have hB1 := hbc3.lt
    obtain ⟨c0, c1, f0, f1⟩ := id hbc3
    obtain ⟨e0, e1, e2, e3, e4, e5, e6, e7, e8, e9⟩ := id bx3
    go_wp2_with fail
    go_ret
    refine ⟨rfl, d, hn ▸ hdn, ?_, BagIs.store' hbc3 (fun y hy => ?_) hBn hm3 hc3 _ (by simp), (hos1.step y3 hbc.lt hBn).set (.inr rfl) _⟩
    · refine ExtM.setCell ?_ (.inr (.inl rfl)) _
      refine ⟨y3.os.trans x01.os, y3.tape.trans x01.tape, y3.output.trans x01.output, Nat.le_trans x01.size y3.size, fun k hk hk' => ?_⟩
      exact (y3.block k (Nat.lt_of_lt_of_le hk x01.size) (fun e => by have e' : k = d := e; omega)).trans (x01.block k hk hk')
    · obtain rfl := List.mem_singleton.1 hy; exact hx
theorem bagAddNil_c (B o : Nat) (x : Out) (w : World) (h : BagIs w B o none []) (hx : x.ok) :
    Calls Tryz.prog 82 #[.pointer (some ⟨B, o, none⟩), encC x false] w fun e w' => e = .returned .nilIface ∧ ∃ d, w.heap.size ≤ d ∧ ExtM (bagM B none) w w' ∧ BagIs w' B o (some d) [x] :=
  (bagAddNilO_c B o x w h hx).mono fun _e _w' ⟨h1, d, h2, h3, h4, _⟩ => ⟨h1, d, h2, h3, h4⟩
end Go.Proofs.YtmcgnnmffeojpaaGreatDoor
