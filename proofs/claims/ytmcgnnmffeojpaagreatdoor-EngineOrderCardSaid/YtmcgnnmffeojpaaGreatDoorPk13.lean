/- The law BagBack: what its walk wants. -/
import Derived.Test.YtmcgnnmffeojpaaGreatDoorPk6
import Derived.Test.YtmcgnnmffeojpaaGreatDoorPk9
import Derived.Test.YtmcgnnmffeojpaaGreatDoorPk12
import Derived.IntWalk
/- Bags whatever their map; two bags apart. -/
namespace Go.Proofs.YtmcgnnmffeojpaaGreatDoor
open Go.RowKit Go.Plan

theorem BagIs.perm {w : World} {B o : Nat} {D : Option Nat} {l l' : List Out} (h : BagIs w B o D l) (hp : l.Perm l') : BagIs w B o D l' where
  c0 := h.c0
  c1 := by rw [← hp.length_eq]; exact h.c1
  f0 := h.f0
  f1 := h.f1
  ok := fun x hx => h.ok x (hp.mem_iff.2 hx)
  mp := by
    rcases h.mp with ⟨h1, rfl⟩ | ⟨d, m, h1, h2, h3, h4⟩
    · exact .inl ⟨h1, hp.nil_eq.symm⟩
    · exact .inr ⟨d, m, h1, h2, h3, fun x => by rw [h4 x, hp.count_eq]⟩

/-- The map is what it was, or a new one. -/
def Grew (w : World) (D D' : Option Nat) : Prop := D' = D ∨ (D = none ∧ ∃ d, D' = some d ∧ w.heap.size ≤ d)

theorem bagAdd (B o : Nat) (D : Option Nat) (l : List Out) (x : Out) (w : World) (h : BagIs w B o D l) (hx : x.ok) (hl : l.length < 1000000000) :
    Calls Tryz.prog 82 #[.pointer (some ⟨B, o, none⟩), encC x false] w fun e w' => e = .returned .nilIface ∧ ∃ D', Grew w D D' ∧ ExtM (bagM B D) w w' ∧ BagIs w' B o D' (x :: l) := by
  cases D with
  | some d => exact (bagAdd_c B o d l x w h hx hl).mono fun e w' hh => ⟨hh.1, some d, .inl rfl, hh.2.1, hh.2.2⟩
  | none =>
    obtain rfl : l = [] := by
      rcases h.mp with ⟨-, h⟩ | ⟨d, m, h1, -⟩
      · exact h
      · cases h1
    exact (bagAddNil_c B o x w h hx).mono fun e w' ⟨h1, d, h2, h3, h4⟩ => ⟨h1, some d, .inr ⟨rfl, d, rfl, h2⟩, h3, h4⟩

theorem bagLess (B o : Nat) (D : Option Nat) (l : List Out) (x : Out) (w : World) (h : BagIs w B o D l) (hx : x ∈ l) (hl : l.length < 1000000000) :
    Calls Tryz.prog 82 #[.pointer (some ⟨B, o, none⟩), encC x true] w fun e w' => e = .returned .nilIface ∧ ExtM (bagM B D) w w' ∧ BagIs w' B o D (l.erase x) := by
  have hok := h.ok x hx
  cases D with
  | some d =>
    have h0 : 0 < l.count x := List.count_pos_iff.2 hx
    rcases Nat.lt_or_ge 1 (l.count x) with h1 | h1
    · exact bagDec_c B o d l x w h hok hl h1
    · exact bagDel_c B o d l x w h hok hl (by omega)
  | none =>
    rcases h.mp with ⟨-, rfl⟩ | ⟨d, m, h1, -⟩
    · cases hx
    · cases h1

theorem bagAddO (B o : Nat) (D : Option Nat) (l : List Out) (x : Out) (w : World) (h : BagIs w B o D l) (hx : x.ok) (hl : l.length < 1000000000) :
    Calls Tryz.prog 82 #[.pointer (some ⟨B, o, none⟩), encC x false] w fun e w' => e = .returned .nilIface ∧ ∃ D', Grew w D D' ∧ ExtM (bagM B D) w w' ∧ BagIs w' B o D' (x :: l) ∧ OnlyAt B o w w' := by
  cases D with
  | some d => exact (bagAddO_c B o d l x w h hx hl).mono fun e w' hh => ⟨hh.1, some d, .inl rfl, hh.2.1, hh.2.2.1, hh.2.2.2⟩
  | none =>
    obtain rfl : l = [] := by
      rcases h.mp with ⟨-, h⟩ | ⟨d, m, h1, -⟩
      · exact h
      · cases h1
    exact (bagAddNilO_c B o x w h hx).mono fun e w' ⟨h1, d, h2, h3, h4, h5⟩ => ⟨h1, some d, .inr ⟨rfl, d, rfl, h2⟩, h3, h4, h5⟩

theorem bagLessO (B o : Nat) (D : Option Nat) (l : List Out) (x : Out) (w : World) (h : BagIs w B o D l) (hx : x ∈ l) (hl : l.length < 1000000000) :
    Calls Tryz.prog 82 #[.pointer (some ⟨B, o, none⟩), encC x true] w fun e w' => e = .returned .nilIface ∧ ExtM (bagM B D) w w' ∧ BagIs w' B o D (l.erase x) ∧ OnlyAt B o w w' := by
  have hok := h.ok x hx
  cases D with
  | some d =>
    have h0 : 0 < l.count x := List.count_pos_iff.2 hx
    rcases Nat.lt_or_ge 1 (l.count x) with h1 | h1
    · exact bagDecO_c B o d l x w h hok hl h1
    · exact bagDelO_c B o d l x w h hok hl (by omega)
  | none =>
    rcases h.mp with ⟨-, rfl⟩ | ⟨d, m, h1, -⟩
    · cases hx
    · cases h1

theorem bagNone (B o : Nat) (D : Option Nat) (l : List Out) (x : Out) (w : World) (h : BagIs w B o D l) (hok : x.ok) (hx : x ∉ l) :
    Calls Tryz.prog 82 #[.pointer (some ⟨B, o, none⟩), encC x true] w fun e w' => e = .returned (.iface 48 (.int .i64 8)) ∧ Ext w w' := by
  cases D with
  | some d => exact bagNone_c B o d l x w h hok (List.count_eq_zero.2 hx)
  | none => exact bagNone0_c B o l x w h hok

theorem bagAll (B o : Nat) (D : Option Nat) (l : List Out) (w : World) (h : BagIs w B o D l) (hl : l.length < 1000000) :
    Calls Tryz.prog 30 #[.pointer (some ⟨B, o, none⟩)] w (OutsV w (sortO l)) := by
  cases D with
  | some d => exact bagAll_c B o d l w h hl
  | none =>
    obtain rfl : l = [] := by
      rcases h.mp with ⟨-, h⟩ | ⟨d, m, h1, -⟩
      · exact h
      · cases h1
    have e : sortO [] = [] := List.eq_nil_of_length_eq_zero (by rw [sortO_length]; rfl)
    rw [e]
    exact bagAll0_c B o [] w h

theorem BagIs.foot {w : World} {B o : Nat} {D : Option Nat} {l : List Out} (h : BagIs w B o D l) (k : Nat) (hk : bagM B D k) : k < w.heap.size := by
  rcases hk with rfl | hk
  · exact h.ltB
  · rcases h.mp with ⟨h1, -⟩ | ⟨d, m, h1, -, h3, -⟩
    · rw [h1] at hk; cases hk
    · rw [h1] at hk; obtain rfl := Option.some.inj hk; exact h3.lt

/-- All of it is new. -/
def Fresh (N B : Nat) (D : Option Nat) : Prop := ∀ k, bagM B D k → N ≤ k
/-- Nothing is both's. -/
def Apart (A : Nat) (DA : Option Nat) (B : Nat) (DB : Option Nat) : Prop := ∀ k, bagM A DA k → ¬ bagM B DB k

theorem Apart.symm {A B : Nat} {DA DB : Option Nat} (h : Apart A DA B DB) : Apart B DB A DA := fun k h1 h2 => h k h2 h1
theorem Fresh.ext {w0 w w' : World} {A N : Nat} {DA : Option Nat} (hF : Fresh N A DA) (hN : w0.heap.size ≤ N) (hx : Ext w0 w) (hM : ExtM (bagM A DA) w w') : Ext w0 w' :=
  ⟨hM.os.trans hx.os, hM.tape.trans hx.tape, hM.output.trans hx.output, Nat.le_trans hx.size hM.size, fun k hk hn =>
    (hM.block k (Nat.lt_of_lt_of_le hk hx.size) (fun h => by have := hF k h; omega)).trans (hx.block k hk hn)⟩
theorem Fresh.grew {w : World} {A N : Nat} {DA DA' : Option Nat} (hF : Fresh N A DA) (hg : Grew w DA DA') (hN : N ≤ w.heap.size) : Fresh N A DA' := by
  rcases hg with rfl | ⟨rfl, d, rfl, hd⟩
  · exact hF
  · intro k hk
    rcases hk with rfl | hk
    · exact hF _ (.inl rfl)
    · obtain rfl := Option.some.inj hk; omega
theorem Apart.grew {w : World} {A B o : Nat} {DA DA' DB : Option Nat} {q : List Out} (hA : Apart A DA B DB) (hg : Grew w DA DA') (hB : BagIs w B o DB q) : Apart A DA' B DB := by
  rcases hg with rfl | ⟨rfl, d, rfl, hd⟩
  · exact hA
  · intro k hk hb
    rcases hk with rfl | hk
    · exact hA _ (.inl rfl) hb
    · obtain rfl := Option.some.inj hk
      have := hB.foot d hb; omega
theorem BagIs.other {w w' : World} {A B o : Nat} {DA DB : Option Nat} {q : List Out} (h : BagIs w B o DB q) (hM : ExtM (bagM A DA) w w') (hA : Apart A DA B DB) : BagIs w' B o DB q :=
  h.of hM (fun e => hA B e (.inl rfl)) (fun d hd e => hA d e (.inr hd))

/-- A bag that is laid anew. -/
theorem BagIs.new (w : World) (t : TypeId) : BagIs (w.alloc (.cells #[.map none, .int .i64 0] t)) w.heap.size 0 none [] :=
  ⟨by go_simp, by go_simp, by rw [Go.RowKit.frozen?_alloc_cells]; simp [World.frozen?], by rw [Go.RowKit.frozen?_alloc_cells]; simp [World.frozen?], by simp, .inl ⟨rfl, rfl⟩⟩
end Go.Proofs.YtmcgnnmffeojpaaGreatDoor
/- Outs in memory, one by one. -/
namespace Go.Proofs.YtmcgnnmffeojpaaGreatDoor
open Go.RowKit Go.Plan

/-- An Out's cells at ⟨b, a⟩. -/
structure ElemAt (w : World) (b a : Nat) (x : Out) : Prop where
  e0 : w.cell? ⟨b, a, none⟩ = some (.int .i64 x.key)
  e1 : w.cell? ⟨b, a + 1, none⟩ = some (.int .i64 x.l.k)
  e2 : w.cell? ⟨b, a + 2, none⟩ = some (.int .i64 x.l.t)
  e3 : w.cell? ⟨b, a + 3, none⟩ = some (.int .i64 x.l.v)
  e4 : w.cell? ⟨b, a + 4, none⟩ = some (.int .i64 x.r.k)
  e5 : w.cell? ⟨b, a + 5, none⟩ = some (.int .i64 x.r.t)
  e6 : w.cell? ⟨b, a + 6, none⟩ = some (.int .i64 x.r.v)
  e7 : w.cell? ⟨b, a + 7, none⟩ = some (.bool x.hl)
  e8 : w.cell? ⟨b, a + 8, none⟩ = some (.bool x.hr)
theorem ElemAt.of {w w' : World} {b a : Nat} {x : Out} (h : ElemAt w b a x) (hx : Ext w w') : ElemAt w' b a x := by
  have hl : b < w.heap.size := cell_lt' h.e0
  have r : ∀ i, w'.cell? ⟨b, i, none⟩ = w.cell? ⟨b, i, none⟩ := fun i => hx.cell (p := ⟨b, i, none⟩) hl id
  exact ⟨(r _).trans h.e0, (r _).trans h.e1, (r _).trans h.e2, (r _).trans h.e3, (r _).trans h.e4, (r _).trans h.e5, (r _).trans h.e6, (r _).trans h.e7, (r _).trans h.e8⟩
theorem ElemAt.lt {w : World} {b a : Nat} {x : Out} (h : ElemAt w b a x) : b < w.heap.size := cell_lt' h.e0

/-- A slice that came in holds these. -/
def OutsIn (w : World) (p : Option Addr) (xs : List Out) : Prop := xs = [] ∨ ∃ b off, p = some ⟨b, off, none⟩ ∧ ∀ i (hi : i < xs.length), ElemAt w b (off + i * 9) (xs[i]'hi)

/-- A result holds these. -/
def OutsOf (w : World) (p : Option Addr) (l : List Out) : Prop := l = [] ∨ ∃ b, p = some ⟨b, 0, none⟩ ∧ ∀ i (hi : i < l.length), ElemAt w b (i * 9) (l[i]'hi)
theorem OutsOf.of {w w' : World} {p : Option Addr} {l : List Out} (h : OutsOf w p l) (hx : Ext w w') : OutsOf w' p l := by
  rcases h with h | ⟨b, h1, h2⟩
  · exact .inl h
  · exact .inr ⟨b, h1, fun i hi => (h2 i hi).of hx⟩
theorem neq_out_self (a : Out) (w : World) : (binOp .neq 58 (.agg #[.int .i64 a.key, .int .i64 a.l.k, .int .i64 a.l.t, .int .i64 a.l.v, .int .i64 a.r.k, .int .i64 a.r.t, .int .i64 a.r.v, .bool a.hl, .bool a.hr]) (.agg #[.int .i64 a.key, .int .i64 a.l.k, .int .i64 a.l.t, .int .i64 a.l.v, .int .i64 a.r.k, .int .i64 a.r.t, .int .i64 a.r.v, .bool a.hl, .bool a.hr])).run Tryz.prog w = .ok (.bool false) w := by
  obtain ⟨a1, ⟨a2, a3, a4⟩, ⟨a5, a6, a7⟩, a8, a9⟩ := a
  go_simp
end Go.Proofs.YtmcgnnmffeojpaaGreatDoor
/- keep.pick. -/
namespace Go.Proofs.YtmcgnnmffeojpaaGreatDoor
open Go.RowKit Go.Plan

/-- Which of so many. -/
def pickN (t : Int) (n : Nat) : Nat := ((t % 18446744073709551616) % (n : Int)).toNat
theorem pickN_lt (t : Int) (n : Nat) (h : 0 < n) : pickN t n < n := by
  unfold pickN
  have h1 := Int.emod_lt_of_pos (t % 18446744073709551616) (show (0 : Int) < n by omega)
  have h2 := Int.emod_nonneg (t % 18446744073709551616) (show (n : Int) ≠ 0 by omega)
  omega

theorem pick_c (t : Int) (n : Nat) (w : World) (hn : 0 < n) (hn2 : n ≤ 1000000) (ht : I64 t) :
    Calls Tryz.prog 13 #[.int .i64 t, .int .i64 (n : Int)] w fun e w' => e = .returned (.int .i64 (pickN t n : Nat)) ∧ w = w' := by
  have hlt := pickN_lt t n hn
  unfold I64 at ht
  go_enter Tryz.func13, Tryz.ntmps13
  go_wp2_with fail
  go_ret
  refine ⟨?_, rfl⟩
  have e1 : IntKind.u64.wrap t = t % 18446744073709551616 := by simp [IntKind.wrap, IntKind.bits, IntKind.signed]
  have h0 : 0 ≤ t % 18446744073709551616 := Int.emod_nonneg _ (by decide)
  have e2 : (t % 18446744073709551616).tmod (n : Int) = (t % 18446744073709551616) % (n : Int) := Int.tmod_eq_emod_of_nonneg h0
  have h1 := Int.emod_lt_of_pos (t % 18446744073709551616) (show (0 : Int) < n by omega)
  have h2 := Int.emod_nonneg (t % 18446744073709551616) (show (n : Int) ≠ 0 by omega)
  rw [show wrap64 ((IntKind.u64.wrap t).tmod (n : Int)) = ((pickN t n : Nat) : Int) from by
    rw [e1, e2]; unfold wrap64 pickN; omega]
  rfl
end Go.Proofs.YtmcgnnmffeojpaaGreatDoor
namespace Go.Proofs.YtmcgnnmffeojpaaGreatDoor
open Go.RowKit Go.Plan

/-- What 'counted' counts. -/
def cX : Out := ⟨1, ⟨1, 0, 0⟩, ⟨0, 0, 0⟩, true, false⟩
theorem cX_ok : cX.ok := by unfold Out.ok Row.ok I64 cX; decide

/-- From the r-th on, round. -/
def rot (r : Nat) (xs : List Out) : List Out := xs.drop r ++ xs.take r
theorem rot_perm (r : Nat) (xs : List Out) : (rot r xs).Perm xs := by
  unfold rot
  exact (List.perm_append_comm).trans (by rw [List.take_append_drop])
theorem rot_length (r : Nat) (xs : List Out) : (rot r xs).length = xs.length := (rot_perm r xs).length_eq
theorem rot_get (r : Nat) (xs : List Out) (hr : r < xs.length) (i : Nat) (hi : i < xs.length) : (rot r xs)[i]? = xs[(i + r) % xs.length]? := by
  unfold rot
  rcases Nat.lt_or_ge i (xs.length - r) with h | h
  · rw [List.getElem?_append_left (by simp; omega), List.getElem?_drop, Nat.mod_eq_of_lt (by omega), Nat.add_comm]
  · rw [List.getElem?_append_right (by simp; omega), List.length_drop, List.getElem?_take_of_lt (by omega)]
    congr 1
    rw [Nat.mod_eq_sub_mod (by omega), Nat.mod_eq_of_lt (by omega)]; omega

/-- Two bags of the call's own, at A and A + 1: they have these. -/
structure Two (w wr : World) (A : Nat) (p q : List Out) : Prop where
  ex : ∃ DA DB, BagIs wr A 0 DA p ∧ BagIs wr (A + 1) 0 DB q ∧ Fresh A A DA ∧ Fresh A (A + 1) DB ∧ Apart A DA (A + 1) DB
  ext : Ext w wr
  low : w.heap.size ≤ A
theorem Two.perm {w wr : World} {A : Nat} {p q p' q' : List Out} (h : Two w wr A p q) (hp : p.Perm p') (hq : q.Perm q') : Two w wr A p' q' := by
  obtain ⟨⟨DA, DB, h1, h2, h3⟩, h4, h5⟩ := h
  exact ⟨⟨DA, DB, h1.perm hp, h2.perm hq, h3⟩, h4, h5⟩
theorem Two.of {w wr w' : World} {A : Nat} {p q : List Out} (h : Two w wr A p q) (hx : Ext wr w') : Two w w' A p q := by
  obtain ⟨⟨DA, DB, h1, h2, h3⟩, h4, h5⟩ := h
  exact ⟨⟨DA, DB, h1.of hx id (fun _ _ => id), h2.of hx id (fun _ _ => id), h3⟩, ExtM.trans _ _ _ h4 hx, h5⟩
theorem Two.size {w wr : World} {A : Nat} {p q : List Out} (h : Two w wr A p q) : A + 1 < wr.heap.size := by
  obtain ⟨⟨DA, DB, h1, h2, h3⟩, h4, h5⟩ := h
  exact h2.ltB
theorem two_addA {w wr : World} {A : Nat} {p q : List Out} (h : Two w wr A p q) (x : Out) (hx : x.ok) (hl : p.length < 1000000000) :
    Calls Tryz.prog 82 #[.pointer (some ⟨A, 0, none⟩), encC x false] wr fun e w' => e = .returned .nilIface ∧ Two w w' A (x :: p) q := by
  have hs := h.size
  obtain ⟨⟨DA, DB, h1, h2, h3, h4, h5⟩, h6, h7⟩ := h
  refine (bagAdd A 0 DA p x wr h1 hx hl).mono fun e w' ⟨he, D', hg, hM, hb⟩ => ⟨he, ⟨⟨D', DB, hb, h2.other hM h5, h3.grew hg (by omega), h4, h5.grew hg h2⟩, h3.ext h7 h6 hM, h7⟩⟩
theorem two_addB {w wr : World} {A : Nat} {p q : List Out} (h : Two w wr A p q) (x : Out) (hx : x.ok) (hl : q.length < 1000000000) :
    Calls Tryz.prog 82 #[.pointer (some ⟨A + 1, 0, none⟩), encC x false] wr fun e w' => e = .returned .nilIface ∧ Two w w' A p (x :: q) := by
  have hs := h.size
  obtain ⟨⟨DA, DB, h1, h2, h3, h4, h5⟩, h6, h7⟩ := h
  refine (bagAdd (A + 1) 0 DB q x wr h2 hx hl).mono fun e w' ⟨he, D', hg, hM, hb⟩ => ⟨he, ⟨⟨DA, D', h1.other hM h5.symm, hb, h3, h4.grew hg (by omega), (h5.symm.grew hg h1).symm⟩, h4.ext h7 h6 hM, h7⟩⟩
theorem two_lessB {w wr : World} {A : Nat} {p q : List Out} (h : Two w wr A p q) (x : Out) (hx : x ∈ q) (hl : q.length < 1000000000) :
    Calls Tryz.prog 82 #[.pointer (some ⟨A + 1, 0, none⟩), encC x true] wr fun e w' => e = .returned .nilIface ∧ Two w w' A p (q.erase x) := by
  obtain ⟨⟨DA, DB, h1, h2, h3, h4, h5⟩, h6, h7⟩ := h
  refine (bagLess (A + 1) 0 DB q x wr h2 hx hl).mono fun e w' ⟨he, hM, hb⟩ => ⟨he, ⟨⟨DA, DB, h1.other hM h5.symm, hb, h3, h4, h5⟩, h4.ext h7 h6 hM, h7⟩⟩
theorem Two.new (w w1 : World) (hx : Ext w w1) (t : TypeId) : Two w ((w1.alloc (.cells #[.map none, .int .i64 0] t)).alloc (.cells #[.map none, .int .i64 0] t)) w1.heap.size [] [] := by
  refine ⟨⟨none, none, (BagIs.new w1 t).of ((ExtM.refl _).alloc _ : Ext _ _) id (fun _ _ => id), ?_, ?_, ?_, ?_⟩, (hx.alloc _).alloc _, hx.size⟩
  · have := BagIs.new (w1.alloc (.cells #[.map none, .int .i64 0] t)) t
    rwa [World.size_alloc] at this
  · intro k hk
    rcases hk with rfl | hk
    · exact Nat.le_refl _
    · cases hk
  · intro k hk
    rcases hk with rfl | hk
    · exact Nat.le_succ _
    · cases hk
  · intro k hk hb
    rcases hk with rfl | hk
    · rcases hb with hb | hb
      · omega
      · cases hb
    · cases hk

theorem take_snoc_perm {xs : List Out} {k : Nat} {x : Out} (h : xs[k]? = some x) : (x :: xs.take k).Perm (xs.take (k + 1)) := by
  obtain ⟨hk, rfl⟩ := List.getElem?_eq_some_iff.1 h
  rw [List.take_succ_eq_append_getElem hk]
  exact (List.perm_append_singleton _ _).symm

theorem two_allA {w wr : World} {A : Nat} {p q : List Out} (h : Two w wr A p q) (hl : p.length < 1000000) :
    Calls Tryz.prog 30 #[.pointer (some ⟨A, 0, none⟩)] wr (OutsV wr (sortO p)) := by
  obtain ⟨⟨DA, DB, h1, h2, h3⟩, h6, h7⟩ := h
  exact bagAll A 0 DA p wr h1 hl
theorem two_allB {w wr : World} {A : Nat} {p q : List Out} (h : Two w wr A p q) (hl : q.length < 1000000) :
    Calls Tryz.prog 30 #[.pointer (some ⟨A + 1, 0, none⟩)] wr (OutsV wr (sortO q)) := by
  obtain ⟨⟨DA, DB, h1, h2, h3⟩, h6, h7⟩ := h
  exact bagAll (A + 1) 0 DB q wr h2 hl
theorem OutsAt.elem {w : World} {b : Nat} {l : List Out} (h : OutsAt w b 0 l) (i : Nat) (hi : i < l.length) : ElemAt w b (i * 9) (l[i]'hi) := by
  have r : ∀ c, c < 9 → w.cell? ⟨b, i * 9 + c, none⟩ = (l[i]'hi).cells[c]? := fun c hc => by
    have := (h.cell i c hi hc).1
    rwa [Nat.zero_add] at this
  exact ⟨r 0 (by omega), r 1 (by omega), r 2 (by omega), r 3 (by omega), r 4 (by omega), r 5 (by omega), r 6 (by omega), r 7 (by omega), r 8 (by omega)⟩
theorem OutsV.out {w : World} {l : List Out} {e : Ending} {w' : World} (h : OutsV w l e w') : ∃ p cap, e = .returned (.slice p l.length cap) ∧ Ext w w' ∧ OutsOf w' p l := by
  obtain ⟨p, cap, h1, h2, h3⟩ := h
  refine ⟨p, cap, h1, h2, ?_⟩
  rcases h3 with h | ⟨b, hp, -, -, ho⟩
  · exact .inl h
  · exact .inr ⟨b, hp, fun i hi => ho.elem i hi⟩
end Go.Proofs.YtmcgnnmffeojpaaGreatDoor
