/- Outs in memory, one by one. -/
import Derived.Test.YtggjceolhbdalaaDoorBoxes
namespace Go.Proofs.YtggjceolhbdalaaDoor
open Go.RowKit Go.Plan

/-- An Out's cells at ⟨b, a⟩. -/
structure ElemAt (w : World) (b a : Nat) (x : Out) : Prop where
  e0 : w.cell? ⟨b, a, none⟩ = some (.int .i64 x.key)
  e1 : w.cell? ⟨b, a + 1, none⟩ = some (.int .i64 x.l.k)
  e2 : w.cell? ⟨b, a + 2, none⟩ = some (.int .i64 x.l.t)
  e3 : w.cell? ⟨b, a + 3, none⟩ = some (.int .i64 x.l.v)
  e4 : w.cell? ⟨b, a + 4, none⟩ = some (.int .i64 x.r.k)
  e5 : w.cell? ⟨b, a + 5, none⟩ = some (.int .i64 x.r.t)
  e6 : w.cell? ⟨b, a + 6, none⟩ = some (.int .i64 x.r.v)
  e7 : w.cell? ⟨b, a + 7, none⟩ = some (.bool x.hl)
  e8 : w.cell? ⟨b, a + 8, none⟩ = some (.bool x.hr)
theorem ElemAt.of {w w' : World} {b a : Nat} {x : Out} (h : ElemAt w b a x) (hx : Ext w w') : ElemAt w' b a x := by
  have hl : b < w.heap.size := cell_lt' h.e0
  have r : ∀ i, w'.cell? ⟨b, i, none⟩ = w.cell? ⟨b, i, none⟩ := fun i => hx.cell (p := ⟨b, i, none⟩) hl id
  exact ⟨(r _).trans h.e0, (r _).trans h.e1, (r _).trans h.e2, (r _).trans h.e3, (r _).trans h.e4, (r _).trans h.e5, (r _).trans h.e6, (r _).trans h.e7, (r _).trans h.e8⟩
theorem ElemAt.lt {w : World} {b a : Nat} {x : Out} (h : ElemAt w b a x) : b < w.heap.size := cell_lt' h.e0

/-- A slice that came in holds these. -/
def OutsIn (w : World) (p : Option Addr) (xs : List Out) : Prop := xs = [] ∨ ∃ b off, p = some ⟨b, off, none⟩ ∧ ∀ i (hi : i < xs.length), ElemAt w b (off + i * 9) (xs[i]'hi)

/-- A result holds these. -/
def OutsOf (w : World) (p : Option Addr) (l : List Out) : Prop := l = [] ∨ ∃ b, p = some ⟨b, 0, none⟩ ∧ ∀ i (hi : i < l.length), ElemAt w b (i * 9) (l[i]'hi)
theorem OutsOf.of {w w' : World} {p : Option Addr} {l : List Out} (h : OutsOf w p l) (hx : Ext w w') : OutsOf w' p l := by
  rcases h with h | ⟨b, h1, h2⟩
  · exact .inl h
  · exact .inr ⟨b, h1, fun i hi => (h2 i hi).of hx⟩
theorem neq_out_self (a : Out) (w : World) : (binOp .neq 45 (.agg #[.int .i64 a.key, .int .i64 a.l.k, .int .i64 a.l.t, .int .i64 a.l.v, .int .i64 a.r.k, .int .i64 a.r.t, .int .i64 a.r.v, .bool a.hl, .bool a.hr]) (.agg #[.int .i64 a.key, .int .i64 a.l.k, .int .i64 a.l.t, .int .i64 a.l.v, .int .i64 a.r.k, .int .i64 a.r.t, .int .i64 a.r.v, .bool a.hl, .bool a.hr])).run Tryd.prog w = .ok (.bool false) w := by
  obtain ⟨a1, ⟨a2, a3, a4⟩, ⟨a5, a6, a7⟩, a8, a9⟩ := a
  go_simp
end Go.Proofs.YtggjceolhbdalaaDoor
