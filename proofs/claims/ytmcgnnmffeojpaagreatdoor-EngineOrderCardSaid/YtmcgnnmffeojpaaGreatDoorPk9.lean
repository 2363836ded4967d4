/- Boxes that hold an Out; an append whose run is known. -/
import Derived.Test.YtmcgnnmffeojpaaGreatDoorPk8
import Derived.OwnWalk
import Derived.Carry
namespace Go.Proofs.YtmcgnnmffeojpaaGreatDoor
open Go.RowKit Go.Plan

/-- An append whose run is known, at the operation. -/
theorem wpList_append_run {P : Program} {w w' : World} {ops : Array Oper} {rest : List Oper} {o : Oper} {a : Act} {Q : Exit → Act → World → Prop} {t ty : TypeId} {v x v' : Value} (hr : (Builtin.append_ #[t, t] ty #[v, x]).run P w = .ok v' w') (hgd : o.guard = none) (hty : o.type = ty) (so xo : Operand)
    (ho : o.op = .call { callee := .builtin .append, args := #[so, xo], argTypes := #[t, t] }) (hs : a.eval so = v) (hx : a.eval xo = x) (h : wpList P ops Q rest (a.put o.dst v') w') : wpList P ops Q (o :: rest) a w := by
  refine wpList_plain hgd fun K hK' => ?_
  subst hty
  unfold Oper.wp execOp
  simp only [ho, resolve, invoke, builtin, Sem.run_bind, Sem.run_pure, Result.andThen_ok, List.map_toArray, List.map_cons, List.map_nil, hs, hx, hr]
  exact hK' _ _ h

/-- The cells of an Out that lies in a block of its own. -/
structure BoxO (w : World) (n : Nat) (x : Out) : Prop where
  e0 : w.cell? ⟨n, 0, none⟩ = some (.int .i64 x.key)
  e1 : w.cell? ⟨n, 1, none⟩ = some (.int .i64 x.l.k)
  e2 : w.cell? ⟨n, 2, none⟩ = some (.int .i64 x.l.t)
  e3 : w.cell? ⟨n, 3, none⟩ = some (.int .i64 x.l.v)
  e4 : w.cell? ⟨n, 4, none⟩ = some (.int .i64 x.r.k)
  e5 : w.cell? ⟨n, 5, none⟩ = some (.int .i64 x.r.t)
  e6 : w.cell? ⟨n, 6, none⟩ = some (.int .i64 x.r.v)
  e7 : w.cell? ⟨n, 7, none⟩ = some (.bool x.hl)
  e8 : w.cell? ⟨n, 8, none⟩ = some (.bool x.hr)
theorem BoxO.mk' (w : World) (x : Out) (t : TypeId) : BoxO (w.alloc (.cells #[.int .i64 x.key, .int .i64 x.l.k, .int .i64 x.l.t, .int .i64 x.l.v, .int .i64 x.r.k, .int .i64 x.r.t, .int .i64 x.r.v, .bool x.hl, .bool x.hr] t)) w.heap.size x := by
  constructor <;> go_simp
theorem BoxO.keep {w w' : World} {n : Nat} {x : Out} (h : BoxO w n x) (hb : w'.heap[n]? = w.heap[n]?) : BoxO w' n x := by
  have r : ∀ i, w'.cell? ⟨n, i, none⟩ = w.cell? ⟨n, i, none⟩ := fun i => World.cell?_of_block (w := w) (w' := w') (a := ⟨n, i, none⟩) hb
  exact ⟨(r 0).trans h.e0, (r 1).trans h.e1, (r 2).trans h.e2, (r 3).trans h.e3, (r 4).trans h.e4, (r 5).trans h.e5, (r 6).trans h.e6, (r 7).trans h.e7, (r 8).trans h.e8⟩
theorem BoxO.lt {w : World} {n : Nat} {x : Out} (h : BoxO w n x) : n < w.heap.size := cell_lt' h.e0
theorem BoxO.cells {w : World} {n : Nat} {x : Out} (h : BoxO w n x) : ∀ j, j < 9 → w.cell? ⟨n, j, none⟩ = x.cells[j]? := by
  intro j hj
  match j, hj with
  | 0, _ => exact h.e0
  | 1, _ => exact h.e1
  | 2, _ => exact h.e2
  | 3, _ => exact h.e3
  | 4, _ => exact h.e4
  | 5, _ => exact h.e5
  | 6, _ => exact h.e6
  | 7, _ => exact h.e7
  | 8, _ => exact h.e8
theorem heap_alloc_lt {w : World} {o : Obj} {k : Nat} (h : k < w.heap.size) : (w.alloc o).heap[k]? = w.heap[k]? := Below.heap_alloc _ _ _ h
end Go.Proofs.YtmcgnnmffeojpaaGreatDoor
