/- Changes in memory, one by one. -/
import Derived.Test.YtggjceolhbdalaaDoorOutElem
namespace Go.Proofs.YtggjceolhbdalaaDoor
open Go.RowKit Go.Plan

/-- A change's cells at ⟨b, a⟩. -/
structure ElemC (w : World) (b a : Nat) (x : Out) (g : Bool) : Prop where
  e0 : w.cell? ⟨b, a, none⟩ = some (.int .i64 x.key)
  e1 : w.cell? ⟨b, a + 1, none⟩ = some (.int .i64 x.l.k)
  e2 : w.cell? ⟨b, a + 2, none⟩ = some (.int .i64 x.l.t)
  e3 : w.cell? ⟨b, a + 3, none⟩ = some (.int .i64 x.l.v)
  e4 : w.cell? ⟨b, a + 4, none⟩ = some (.int .i64 x.r.k)
  e5 : w.cell? ⟨b, a + 5, none⟩ = some (.int .i64 x.r.t)
  e6 : w.cell? ⟨b, a + 6, none⟩ = some (.int .i64 x.r.v)
  e7 : w.cell? ⟨b, a + 7, none⟩ = some (.bool x.hl)
  e8 : w.cell? ⟨b, a + 8, none⟩ = some (.bool x.hr)
  e9 : w.cell? ⟨b, a + 9, none⟩ = some (.bool g)
theorem ElemC.of {w w' : World} {b a : Nat} {x : Out} {g : Bool} (h : ElemC w b a x g) (hx : Ext w w') : ElemC w' b a x g := by
  have hl : b < w.heap.size := cell_lt' h.e0
  have r : ∀ i, w'.cell? ⟨b, i, none⟩ = w.cell? ⟨b, i, none⟩ := fun i => hx.cell (p := ⟨b, i, none⟩) hl id
  exact ⟨(r _).trans h.e0, (r _).trans h.e1, (r _).trans h.e2, (r _).trans h.e3, (r _).trans h.e4, (r _).trans h.e5, (r _).trans h.e6, (r _).trans h.e7, (r _).trans h.e8, (r _).trans h.e9⟩
theorem ElemC.lt {w : World} {b a : Nat} {x : Out} {g : Bool} (h : ElemC w b a x g) : b < w.heap.size := cell_lt' h.e0
/-- A slice that came in holds these changes. -/
def ChangesIn (w : World) (p : Option Addr) (cs : List (Out × Bool)) : Prop := cs = [] ∨ ∃ b off, p = some ⟨b, off, none⟩ ∧ ∀ i (hi : i < cs.length), ElemC w b (off + i * 10) (cs[i]'hi).1 (cs[i]'hi).2

end Go.Proofs.YtggjceolhbdalaaDoor
