/- Bags whatever their map; two bags apart. -/
import Derived.Test.YtggjceolhbdalaaDoorBagAll
namespace Go.Proofs.YtggjceolhbdalaaDoor
open Go.RowKit Go.Plan

theorem BagIs.perm {w : World} {B o : Nat} {D : Option Nat} {l l' : List Out} (h : BagIs w B o D l) (hp : l.Perm l') : BagIs w B o D l' where
  c0 := h.c0
  c1 := by rw [← hp.length_eq]; exact h.c1
  f0 := h.f0
  f1 := h.f1
  ok := fun x hx => h.ok x (hp.mem_iff.2 hx)
  mp := by
    rcases h.mp with ⟨h1, rfl⟩ | ⟨d, m, h1, h2, h3, h4⟩
    · exact .inl ⟨h1, hp.nil_eq.symm⟩
    · exact .inr ⟨d, m, h1, h2, h3, fun x => by rw [h4 x, hp.count_eq]⟩

/-- The map is what it was, or a new one. -/
def Grew (w : World) (D D' : Option Nat) : Prop := D' = D ∨ (D = none ∧ ∃ d, D' = some d ∧ w.heap.size ≤ d)

theorem bagAdd (B o : Nat) (D : Option Nat) (l : List Out) (x : Out) (w : World) (h : BagIs w B o D l) (hx : x.ok) (hl : l.length < 1000000000) :
    Calls Tryd.prog 20 #[.pointer (some ⟨B, o, none⟩), encC x false] w fun e w' => e = .returned .nilIface ∧ ∃ D', Grew w D D' ∧ ExtM (bagM B D) w w' ∧ BagIs w' B o D' (x :: l) := by
  cases D with
  | some d => exact (bagAdd_c B o d l x w h hx hl).mono fun e w' hh => ⟨hh.1, some d, .inl rfl, hh.2.1, hh.2.2⟩
  | none =>
    obtain rfl : l = [] := by
      rcases h.mp with ⟨-, h⟩ | ⟨d, m, h1, -⟩
      · exact h
      · cases h1
    exact (bagAddNil_c B o x w h hx).mono fun e w' ⟨h1, d, h2, h3, h4⟩ => ⟨h1, some d, .inr ⟨rfl, d, rfl, h2⟩, h3, h4⟩

theorem bagLess (B o : Nat) (D : Option Nat) (l : List Out) (x : Out) (w : World) (h : BagIs w B o D l) (hx : x ∈ l) (hl : l.length < 1000000000) :
    Calls Tryd.prog 20 #[.pointer (some ⟨B, o, none⟩), encC x true] w fun e w' => e = .returned .nilIface ∧ ExtM (bagM B D) w w' ∧ BagIs w' B o D (l.erase x) := by
  have hok := h.ok x hx
  cases D with
  | some d =>
    have h0 : 0 < l.count x := List.count_pos_iff.2 hx
    rcases Nat.lt_or_ge 1 (l.count x) with h1 | h1
    · exact bagDec_c B o d l x w h hok hl h1
    · exact bagDel_c B o d l x w h hok hl (by omega)
  | none =>
    rcases h.mp with ⟨-, rfl⟩ | ⟨d, m, h1, -⟩
    · cases hx
    · cases h1

theorem bagNone (B o : Nat) (D : Option Nat) (l : List Out) (x : Out) (w : World) (h : BagIs w B o D l) (hok : x.ok) (hx : x ∉ l) :
    Calls Tryd.prog 20 #[.pointer (some ⟨B, o, none⟩), encC x true] w fun e w' => e = .returned (.iface 30 (.int .i64 8)) ∧ Ext w w' := by
  cases D with
  | some d => exact bagNone_c B o d l x w h hok (List.count_eq_zero.2 hx)
  | none => exact bagNone0_c B o l x w h hok

theorem bagAll (B o : Nat) (D : Option Nat) (l : List Out) (w : World) (h : BagIs w B o D l) (hl : l.length < 1000000) :
    Calls Tryd.prog 26 #[.pointer (some ⟨B, o, none⟩)] w (OutsV w (sortO l)) := by
  cases D with
  | some d => exact bagAll_c B o d l w h hl
  | none =>
    obtain rfl : l = [] := by
      rcases h.mp with ⟨-, h⟩ | ⟨d, m, h1, -⟩
      · exact h
      · cases h1
    have e : sortO [] = [] := List.eq_nil_of_length_eq_zero (by rw [sortO_length]; rfl)
    rw [e]
    exact bagAll0_c B o [] w h

theorem BagIs.foot {w : World} {B o : Nat} {D : Option Nat} {l : List Out} (h : BagIs w B o D l) (k : Nat) (hk : bagM B D k) : k < w.heap.size := by
  rcases hk with rfl | hk
  · exact h.ltB
  · rcases h.mp with ⟨h1, -⟩ | ⟨d, m, h1, -, h3, -⟩
    · rw [h1] at hk; cases hk
    · rw [h1] at hk; obtain rfl := Option.some.inj hk; exact h3.lt

/-- All of it is new. -/
def Fresh (N B : Nat) (D : Option Nat) : Prop := ∀ k, bagM B D k → N ≤ k
/-- Nothing is both's. -/
def Apart (A : Nat) (DA : Option Nat) (B : Nat) (DB : Option Nat) : Prop := ∀ k, bagM A DA k → ¬ bagM B DB k

theorem Apart.symm {A B : Nat} {DA DB : Option Nat} (h : Apart A DA B DB) : Apart B DB A DA := fun k h1 h2 => h k h2 h1
theorem Fresh.ext {w0 w w' : World} {A N : Nat} {DA : Option Nat} (hF : Fresh N A DA) (hN : w0.heap.size ≤ N) (hx : Ext w0 w) (hM : ExtM (bagM A DA) w w') : Ext w0 w' :=
  ⟨hM.os.trans hx.os, hM.tape.trans hx.tape, hM.output.trans hx.output, Nat.le_trans hx.size hM.size, fun k hk hn =>
    (hM.block k (Nat.lt_of_lt_of_le hk hx.size) (fun h => by have := hF k h; omega)).trans (hx.block k hk hn)⟩
theorem Fresh.grew {w : World} {A N : Nat} {DA DA' : Option Nat} (hF : Fresh N A DA) (hg : Grew w DA DA') (hN : N ≤ w.heap.size) : Fresh N A DA' := by
  rcases hg with rfl | ⟨rfl, d, rfl, hd⟩
  · exact hF
  · intro k hk
    rcases hk with rfl | hk
    · exact hF _ (.inl rfl)
    · obtain rfl := Option.some.inj hk; omega
theorem Apart.grew {w : World} {A B o : Nat} {DA DA' DB : Option Nat} {q : List Out} (hA : Apart A DA B DB) (hg : Grew w DA DA') (hB : BagIs w B o DB q) : Apart A DA' B DB := by
  rcases hg with rfl | ⟨rfl, d, rfl, hd⟩
  · exact hA
  · intro k hk hb
    rcases hk with rfl | hk
    · exact hA _ (.inl rfl) hb
    · obtain rfl := Option.some.inj hk
      have := hB.foot d hb; omega
theorem BagIs.other {w w' : World} {A B o : Nat} {DA DB : Option Nat} {q : List Out} (h : BagIs w B o DB q) (hM : ExtM (bagM A DA) w w') (hA : Apart A DA B DB) : BagIs w' B o DB q :=
  h.of hM (fun e => hA B e (.inl rfl)) (fun d hd e => hA d e (.inr hd))

/-- A bag that is laid anew. -/
theorem BagIs.new (w : World) (t : TypeId) : BagIs (w.alloc (.cells #[.map none, .int .i64 0] t)) w.heap.size 0 none [] :=
  ⟨by go_simp, by go_simp, by rw [Go.RowKit.frozen?_alloc_cells]; simp [World.frozen?], by rw [Go.RowKit.frozen?_alloc_cells]; simp [World.frozen?], by simp, .inl ⟨rfl, rfl⟩⟩
end Go.Proofs.YtggjceolhbdalaaDoor
