/- What values of the program's plain types look like, as they come in. What slices of the program's plain structs look like, as they come in. -/
import Derived.Test.YtggjceolhbdalaaDoorClaim
import Derived.Test.YtggjceolhbdalaaDoorRow2
import Derived.Deep.Strs
import Derived.Deep.Slices
-- Shapes
namespace Go.Proofs.YtggjceolhbdalaaDoor
open Go.ChangeShapes Go.WideShapes Go.ChangeAt Go.RowKit Go.Joins Go.Plan Go.Deep

/-- It is an int of 64 bits. -/
def I64 (n : Int) : Prop := -9223372036854775808 ≤ n ∧ n ≤ 9223372036854775807

theorem I64_of {n : Int} (h : (Lit.int .i64 n).wf = true) : I64 n := by
  simp only [Lit.wf, Bool.and_eq_true, decide_eq_true_eq] at h
  have e1 : IntKind.min .i64 = -9223372036854775808 := by decide
  have e2 : IntKind.max .i64 = 9223372036854775807 := by decide
  rw [e1, e2] at h
  exact h

theorem cellsRow : Tryd.prog.cellsOf 43 = 3 := by kernel_rfl
theorem cellsOut : Tryd.prog.cellsOf 45 = 9 := by kernel_rfl
theorem cellsInt : Tryd.prog.cellsOf 3 = 1 := by kernel_rfl
theorem cellsBool : Tryd.prog.cellsOf 4 = 1 := by kernel_rfl

section
variable {H : Type} {enc : TypeId × Value → H} {w : World} {base : Nat} {spare : Nat → Bool} {held : Bool}

theorem int_cell {n : Nat} {c : Value} {y : DataW H × List MemPlace} (h : DataW.trod enc Tryd.prog w base spare held n 3 [c] = some y) : ∃ k, c = .int .i64 k ∧ I64 k := by
  obtain ⟨k, e, -, hw⟩ := DataW.trod_int Tryd.underlying3 h
  simp only [List.cons.injEq, and_true] at e
  exact ⟨k, e, I64_of hw⟩

theorem bool_cell {n : Nat} {c : Value} {y : DataW H × List MemPlace} (h : DataW.trod enc Tryd.prog w base spare held n 4 [c] = some y) : ∃ b, c = .bool b := by
  obtain ⟨k, e, -⟩ := DataW.trod_bool Tryd.underlying4 h
  simp only [List.cons.injEq, and_true] at e
  exact ⟨k, e⟩

set_option maxRecDepth 100000 in
theorem row_cells {fuel : Nat} {cs : List Value} {x : DataW H × List MemPlace} (h : DataW.trod enc Tryd.prog w base spare held fuel 43 cs = some x) :
    ∃ r : Row, cs = [.int .i64 r.k, .int .i64 r.t, .int .i64 r.v] ∧ I64 r.k ∧ I64 r.t ∧ I64 r.v := by
  obtain ⟨y0, y1, y2, n, -, hl, h0, h1, h2⟩ := trod_struct3 Tryd.underlying43 h
  rw [cellsRow] at hl
  match cs, hl with
  | [c0, c1, c2], _ =>
    obtain ⟨a, rfl, wa⟩ := int_cell (c := c0) (by simpa [cellsInt] using h0)
    obtain ⟨b, rfl, wb⟩ := int_cell (c := c1) (by simpa [cellsInt] using h1)
    obtain ⟨c, rfl, wc⟩ := int_cell (c := c2) (by simpa [cellsInt] using h2)
    exact ⟨⟨a, b, c⟩, rfl, wa, wb, wc⟩

/-- All numbers of it are ints. -/
def Row.ok (r : Row) : Prop := I64 r.k ∧ I64 r.t ∧ I64 r.v
def Out.ok (o : Out) : Prop := I64 o.key ∧ o.l.ok ∧ o.r.ok
def Row.cells (r : Row) : List Value := [.int .i64 r.k, .int .i64 r.t, .int .i64 r.v]
def Out.cells (o : Out) : List Value := [.int .i64 o.key, .int .i64 o.l.k, .int .i64 o.l.t, .int .i64 o.l.v, .int .i64 o.r.k, .int .i64 o.r.t, .int .i64 o.r.v, .bool o.hl, .bool o.hr]

set_option maxRecDepth 100000 in
theorem out_cells {fuel : Nat} {cs : List Value} {x : DataW H × List MemPlace} (h : DataW.trod enc Tryd.prog w base spare held fuel 45 cs = some x) :
    ∃ o : Out, cs = o.cells ∧ o.ok := by
  obtain ⟨xs, n, _, -, hl, hlen, hf⟩ := DataW.trod_struct Tryd.underlying45 h
  rw [cellsOut] at hl
  match cs, hl, xs, hlen with
  | [c0, c1, c2, c3, c4, c5, c6, c7, c8], _, [y0, y1, y2, y3, y4], _ =>
    obtain ⟨a, rfl, wa⟩ := int_cell (c := c0) (by simpa [cellsInt] using hf 0 _ rfl)
    obtain ⟨l, e1, wl⟩ := row_cells (cs := [c1, c2, c3]) (by simpa [cellsRow] using hf 1 _ rfl)
    obtain ⟨r, e2, wr⟩ := row_cells (cs := [c4, c5, c6]) (by simpa [cellsRow] using hf 2 _ rfl)
    obtain ⟨b1, rfl⟩ := bool_cell (c := c7) (by simpa [cellsBool] using hf 3 _ rfl)
    obtain ⟨b2, rfl⟩ := bool_cell (c := c8) (by simpa [cellsBool] using hf 4 _ rfl)
    simp only [List.cons.injEq, and_true] at e1 e2
    obtain ⟨rfl, rfl, rfl⟩ := e1
    obtain ⟨rfl, rfl, rfl⟩ := e2
    exact ⟨⟨a, l, r, b1, b2⟩, rfl, wa, wl, wr⟩

set_option maxRecDepth 100000 in
theorem row_arg {r : Reach} {b0 : Nat} {v : Value} {d : DataW H} {p : List MemPlace} (hv : Value.okWide Tryd.prog w r b0 43 v) (h : DataW.Trod enc Tryd.prog w base spare held 43 v d p) :
    ∃ r : Row, v = .agg #[.int .i64 r.k, .int .i64 r.t, .int .i64 r.v] ∧ r.ok := by
  obtain ⟨cs, rfl, hsz⟩ := okWide_struct Tryd.underlying43 hv
  obtain ⟨fuel, hf⟩ := h
  obtain ⟨r, e, hr⟩ := row_cells hf
  obtain ⟨l⟩ := cs
  simp only [Value.cells] at e
  exact ⟨r, by rw [e], hr⟩

set_option maxRecDepth 100000 in
theorem out_arg {r : Reach} {b0 : Nat} {v : Value} {d : DataW H} {p : List MemPlace} (hv : Value.okWide Tryd.prog w r b0 45 v) (h : DataW.Trod enc Tryd.prog w base spare held 45 v d p) :
    ∃ o : Out, v = .agg #[.int .i64 o.key, .int .i64 o.l.k, .int .i64 o.l.t, .int .i64 o.l.v, .int .i64 o.r.k, .int .i64 o.r.t, .int .i64 o.r.v, .bool o.hl, .bool o.hr] ∧ o.ok := by
  obtain ⟨cs, rfl, hsz⟩ := okWide_struct Tryd.underlying45 hv
  obtain ⟨fuel, hf⟩ := h
  obtain ⟨o, e, ho⟩ := out_cells hf
  obtain ⟨l⟩ := cs
  simp only [Value.cells] at e
  exact ⟨o, by rw [e]; rfl, ho⟩

set_option maxRecDepth 100000 in
theorem int_arg {r : Reach} {b0 : Nat} {v : Value} {d : DataW H} {p : List MemPlace} (hv : Value.okWide Tryd.prog w r b0 3 v) (h : DataW.Trod enc Tryd.prog w base spare held 3 v d p) :
    ∃ n : Int, v = .int .i64 n ∧ I64 n := by
  obtain ⟨x, rfl, -, -, wx⟩ := open_int Tryd.underlying3 hv h
  exact ⟨x, rfl, I64_of wx⟩
end
end Go.Proofs.YtggjceolhbdalaaDoor

-- SliceArgs
namespace Go.Proofs.YtggjceolhbdalaaDoor
open Go.ChangeShapes Go.WideShapes Go.ChangeAt Go.RowKit Go.Joins Go.Plan Go.Deep

section
variable {H : Type} {enc : TypeId × Value → H} {w : World} {base : Nat} {spare : Nat → Bool} {held : Bool}

set_option maxRecDepth 100000 in
/-- A slice whose elements take C cells each, at least one. -/
theorem slice_arg {r : Reach} {b0 : Nat} {t e : TypeId} {v : Value} {d : DataW H} {p : List MemPlace} (C : Nat) (hC : 0 < C) (ht : Tryd.prog.underlying t = some (.slice e)) (hc : Tryd.prog.cellsOf e = C)
    (hv : Value.okWide Tryd.prog w r b0 t v) (h : DataW.Trod enc Tryd.prog w base spare held t v d p) :
    ∃ (a : Option Addr) (len cap : Nat), v = .slice a len cap ∧ len ≤ cap ∧ cap ≤ maxLen ∧ (len = 0 ∨ ∃ b off, a = some ⟨b, off, none⟩ ∧
      ∀ k, k < len → ∃ (cs : List Value) (n : Nat) (y : DataW H × List MemPlace), cs.length = C ∧ (∀ j, j < C → w.cell? ⟨b, off + k * C + j, none⟩ = cs[j]?) ∧ DataW.trod enc Tryd.prog w base spare held n e cs = some y) := by
  obtain ⟨a0, len, cap, rfl⟩ := okWide_slice ht hv
  obtain ⟨fuel, hf⟩ := h
  rcases open_slice ht hf with ⟨hcs, -⟩ | ⟨a, len', cap', m, n, D, Pl, hcs, -, hl, hm, hmm, -, hi⟩
  · simp only [Value.cells, List.cons.injEq, and_true, Value.slice.injEq] at hcs
    obtain ⟨rfl, rfl, rfl⟩ := hcs
    exact ⟨_, _, _, rfl, Nat.le_refl _, Nat.zero_le _, .inl rfl⟩
  · simp only [Value.cells, List.cons.injEq, and_true, Value.slice.injEq] at hcs
    obtain ⟨rfl, rfl, rfl⟩ := hcs
    refine ⟨_, _, _, rfl, hl, hm, ?_⟩
    rcases Nat.eq_zero_or_pos len with h0 | h0
    · exact .inl h0
    refine .inr ?_
    have hml : len ≤ m := by rw [hmm]; split <;> omega
    rw [hc] at hi
    obtain ⟨b, off, sp⟩ := a
    have hsp : sp = none := by
      obtain ⟨cs', h1, -⟩ := hi 0 (by omega)
      obtain ⟨-, hcl, hat⟩ := World.cells?_some h1
      have h2 := hat 0 hC
      rw [List.getElem?_eq_getElem (by omega)] at h2
      simpa [Addr.add] using World.cell?_spot h2
    subst hsp
    refine ⟨b, off, rfl, fun k hk => ?_⟩
    obtain ⟨cs', h1, h2⟩ := hi k (by omega)
    obtain ⟨-, hcl, hat⟩ := World.cells?_some h1
    refine ⟨cs', n, _, hcl, fun j hj => ?_, h2⟩
    rw [← hat j hj]
    congr 1
    simp only [Addr.add]
    split <;> split <;> simp_all <;> omega
end
end Go.Proofs.YtggjceolhbdalaaDoor
