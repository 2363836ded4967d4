/- Outs as keys of a map; how many there are of each, as a map's pairs. -/
import Derived.Test.YtmcgnnmffeojpaaGreatDoorPk2
import Derived.Test.YtmcgnnmffeojpaaGreatDoorPk4
import Derived.Test.YtmcgnnmffeojpaaGreatDoorPk5
import Derived.Deep.Strs
import Derived.Deep.Slices
import Derived.DeepKeys4
/- What values of the program's plain types look like, as they come in. What slices of the program's plain structs look like, as they come in. -/
-- Shapes
namespace Go.Proofs.YtmcgnnmffeojpaaGreatDoor
open Go.ChangeShapes Go.WideShapes Go.ChangeAt Go.RowKit Go.Joins Go.Plan Go.Deep

/-- It is an int of 64 bits. -/
def I64 (n : Int) : Prop := -9223372036854775808 ≤ n ∧ n ≤ 9223372036854775807

theorem I64_of {n : Int} (h : (Lit.int .i64 n).wf = true) : I64 n := by
  simp only [Lit.wf, Bool.and_eq_true, decide_eq_true_eq] at h
  have e1 : IntKind.min .i64 = -9223372036854775808 := by decide
  have e2 : IntKind.max .i64 = 9223372036854775807 := by decide
  rw [e1, e2] at h
  exact h

theorem cellsRow : Tryz.prog.cellsOf 56 = 3 := by kernel_rfl
theorem cellsOut : Tryz.prog.cellsOf 58 = 9 := by kernel_rfl
theorem cellsInt : Tryz.prog.cellsOf 3 = 1 := by kernel_rfl
theorem cellsBool : Tryz.prog.cellsOf 4 = 1 := by kernel_rfl

section
variable {H : Type} {enc : TypeId × Value → H} {w : World} {base : Nat} {spare : Nat → Bool} {held : Bool}

theorem int_cell {n : Nat} {c : Value} {y : DataW H × List MemPlace} (h : DataW.trod enc Tryz.prog w base spare held n 3 [c] = some y) : ∃ k, c = .int .i64 k ∧ I64 k := by
  obtain ⟨k, e, -, hw⟩ := DataW.trod_int Tryz.underlying3 h
  simp only [List.cons.injEq, and_true] at e
  exact ⟨k, e, I64_of hw⟩

theorem bool_cell {n : Nat} {c : Value} {y : DataW H × List MemPlace} (h : DataW.trod enc Tryz.prog w base spare held n 4 [c] = some y) : ∃ b, c = .bool b := by
  obtain ⟨k, e, -⟩ := DataW.trod_bool Tryz.underlying4 h
  simp only [List.cons.injEq, and_true] at e
  exact ⟨k, e⟩

set_option maxRecDepth 100000 in
theorem row_cells {fuel : Nat} {cs : List Value} {x : DataW H × List MemPlace} (h : DataW.trod enc Tryz.prog w base spare held fuel 56 cs = some x) :
    ∃ r : Row, cs = [.int .i64 r.k, .int .i64 r.t, .int .i64 r.v] ∧ I64 r.k ∧ I64 r.t ∧ I64 r.v := by
  obtain ⟨y0, y1, y2, n, -, hl, h0, h1, h2⟩ := trod_struct3 Tryz.underlying56 h
  rw [cellsRow] at hl
  match cs, hl with
  | [c0, c1, c2], _ =>
    obtain ⟨a, rfl, wa⟩ := int_cell (c := c0) (by simpa [cellsInt] using h0)
    obtain ⟨b, rfl, wb⟩ := int_cell (c := c1) (by simpa [cellsInt] using h1)
    obtain ⟨c, rfl, wc⟩ := int_cell (c := c2) (by simpa [cellsInt] using h2)
    exact ⟨⟨a, b, c⟩, rfl, wa, wb, wc⟩

/-- All numbers of it are ints. -/
def Row.ok (r : Row) : Prop := I64 r.k ∧ I64 r.t ∧ I64 r.v
def Out.ok (o : Out) : Prop := I64 o.key ∧ o.l.ok ∧ o.r.ok
def Row.cells (r : Row) : List Value := [.int .i64 r.k, .int .i64 r.t, .int .i64 r.v]
def Out.cells (o : Out) : List Value := [.int .i64 o.key, .int .i64 o.l.k, .int .i64 o.l.t, .int .i64 o.l.v, .int .i64 o.r.k, .int .i64 o.r.t, .int .i64 o.r.v, .bool o.hl, .bool o.hr]

set_option maxRecDepth 100000 in
theorem out_cells {fuel : Nat} {cs : List Value} {x : DataW H × List MemPlace} (h : DataW.trod enc Tryz.prog w base spare held fuel 58 cs = some x) :
    ∃ o : Out, cs = o.cells ∧ o.ok := by
  obtain ⟨xs, n, _, -, hl, hlen, hf⟩ := DataW.trod_struct Tryz.underlying58 h
  rw [cellsOut] at hl
  match cs, hl, xs, hlen with
  | [c0, c1, c2, c3, c4, c5, c6, c7, c8], _, [y0, y1, y2, y3, y4], _ =>
    obtain ⟨a, rfl, wa⟩ := int_cell (c := c0) (by simpa [cellsInt] using hf 0 _ rfl)
    obtain ⟨l, e1, wl⟩ := row_cells (cs := [c1, c2, c3]) (by simpa [cellsRow] using hf 1 _ rfl)
    obtain ⟨r, e2, wr⟩ := row_cells (cs := [c4, c5, c6]) (by simpa [cellsRow] using hf 2 _ rfl)
    obtain ⟨b1, rfl⟩ := bool_cell (c := c7) (by simpa [cellsBool] using hf 3 _ rfl)
    obtain ⟨b2, rfl⟩ := bool_cell (c := c8) (by simpa [cellsBool] using hf 4 _ rfl)
    simp only [List.cons.injEq, and_true] at e1 e2
    obtain ⟨rfl, rfl, rfl⟩ := e1
    obtain ⟨rfl, rfl, rfl⟩ := e2
    exact ⟨⟨a, l, r, b1, b2⟩, rfl, wa, wl, wr⟩

set_option maxRecDepth 100000 in
theorem row_arg {r : Reach} {b0 : Nat} {v : Value} {d : DataW H} {p : List MemPlace} (hv : Value.okWide Tryz.prog w r b0 56 v) (h : DataW.Trod enc Tryz.prog w base spare held 56 v d p) :
    ∃ r : Row, v = .agg #[.int .i64 r.k, .int .i64 r.t, .int .i64 r.v] ∧ r.ok := by
  obtain ⟨cs, rfl, hsz⟩ := okWide_struct Tryz.underlying56 hv
  obtain ⟨fuel, hf⟩ := h
  obtain ⟨r, e, hr⟩ := row_cells hf
  obtain ⟨l⟩ := cs
  simp only [Value.cells] at e
  exact ⟨r, by rw [e], hr⟩

set_option maxRecDepth 100000 in
theorem out_arg {r : Reach} {b0 : Nat} {v : Value} {d : DataW H} {p : List MemPlace} (hv : Value.okWide Tryz.prog w r b0 58 v) (h : DataW.Trod enc Tryz.prog w base spare held 58 v d p) :
    ∃ o : Out, v = .agg #[.int .i64 o.key, .int .i64 o.l.k, .int .i64 o.l.t, .int .i64 o.l.v, .int .i64 o.r.k, .int .i64 o.r.t, .int .i64 o.r.v, .bool o.hl, .bool o.hr] ∧ o.ok := by
  obtain ⟨cs, rfl, hsz⟩ := okWide_struct Tryz.underlying58 hv
  obtain ⟨fuel, hf⟩ := h
  obtain ⟨o, e, ho⟩ := out_cells hf
  obtain ⟨l⟩ := cs
  simp only [Value.cells] at e
  exact ⟨o, by rw [e]; rfl, ho⟩

set_option maxRecDepth 100000 in
theorem int_arg {r : Reach} {b0 : Nat} {v : Value} {d : DataW H} {p : List MemPlace} (hv : Value.okWide Tryz.prog w r b0 3 v) (h : DataW.Trod enc Tryz.prog w base spare held 3 v d p) :
    ∃ n : Int, v = .int .i64 n ∧ I64 n := by
  obtain ⟨x, rfl, -, -, wx⟩ := open_int Tryz.underlying3 hv h
  exact ⟨x, rfl, I64_of wx⟩
end
end Go.Proofs.YtmcgnnmffeojpaaGreatDoor

-- SliceArgs
namespace Go.Proofs.YtmcgnnmffeojpaaGreatDoor
open Go.ChangeShapes Go.WideShapes Go.ChangeAt Go.RowKit Go.Joins Go.Plan Go.Deep

section
variable {H : Type} {enc : TypeId × Value → H} {w : World} {base : Nat} {spare : Nat → Bool} {held : Bool}

set_option maxRecDepth 100000 in
/-- A slice whose elements take C cells each, at least one. -/
theorem slice_arg {r : Reach} {b0 : Nat} {t e : TypeId} {v : Value} {d : DataW H} {p : List MemPlace} (C : Nat) (hC : 0 < C) (ht : Tryz.prog.underlying t = some (.slice e)) (hc : Tryz.prog.cellsOf e = C)
    (hv : Value.okWide Tryz.prog w r b0 t v) (h : DataW.Trod enc Tryz.prog w base spare held t v d p) :
    ∃ (a : Option Addr) (len cap : Nat), v = .slice a len cap ∧ len ≤ cap ∧ cap ≤ maxLen ∧ (len = 0 ∨ ∃ b off, a = some ⟨b, off, none⟩ ∧
      ∀ k, k < len → ∃ (cs : List Value) (n : Nat) (y : DataW H × List MemPlace), cs.length = C ∧ (∀ j, j < C → w.cell? ⟨b, off + k * C + j, none⟩ = cs[j]?) ∧ DataW.trod enc Tryz.prog w base spare held n e cs = some y) := by
  obtain ⟨a0, len, cap, rfl⟩ := okWide_slice ht hv
  obtain ⟨fuel, hf⟩ := h
  rcases open_slice ht hf with ⟨hcs, -⟩ | ⟨a, len', cap', m, n, D, Pl, hcs, -, hl, hm, hmm, -, hi⟩
  · simp only [Value.cells, List.cons.injEq, and_true, Value.slice.injEq] at hcs
    obtain ⟨rfl, rfl, rfl⟩ := hcs
    exact ⟨_, _, _, rfl, Nat.le_refl _, Nat.zero_le _, .inl rfl⟩
  · simp only [Value.cells, List.cons.injEq, and_true, Value.slice.injEq] at hcs
    obtain ⟨rfl, rfl, rfl⟩ := hcs
    refine ⟨_, _, _, rfl, hl, hm, ?_⟩
    rcases Nat.eq_zero_or_pos len with h0 | h0
    · exact .inl h0
    refine .inr ?_
    have hml : len ≤ m := by rw [hmm]; split <;> omega
    rw [hc] at hi
    obtain ⟨b, off, sp⟩ := a
    have hsp : sp = none := by
      obtain ⟨cs', h1, -⟩ := hi 0 (by omega)
      obtain ⟨-, hcl, hat⟩ := World.cells?_some h1
      have h2 := hat 0 hC
      rw [List.getElem?_eq_getElem (by omega)] at h2
      simpa [Addr.add] using World.cell?_spot h2
    subst hsp
    refine ⟨b, off, rfl, fun k hk => ?_⟩
    obtain ⟨cs', h1, h2⟩ := hi k (by omega)
    obtain ⟨-, hcl, hat⟩ := World.cells?_some h1
    refine ⟨cs', n, _, hcl, fun j hj => ?_, h2⟩
    rw [← hat j hj]
    congr 1
    simp only [Addr.add]
    split <;> split <;> simp_all <;> omega
end
end Go.Proofs.YtmcgnnmffeojpaaGreatDoor
namespace Go.Proofs.YtmcgnnmffeojpaaGreatDoor
open Go.RowKit Go.Plan Go.ChangeShapes Go.WideShapes

/-- An Out as a value. -/
def encO (x : Out) : Value := .agg #[.int .i64 x.key, .int .i64 x.l.k, .int .i64 x.l.t, .int .i64 x.l.v, .int .i64 x.r.k, .int .i64 x.r.t, .int .i64 x.r.v, .bool x.hl, .bool x.hr]
theorem encO_inj (x y : Out) (h : encO x = encO y) : x = y := by
  obtain ⟨a, ⟨b, c, d⟩, ⟨e, f, g⟩, i, j⟩ := x
  obtain ⟨a', ⟨b', c', d'⟩, ⟨e', f', g'⟩, i', j'⟩ := y
  simp only [encO, Value.agg.injEq, Array.mk.injEq, List.cons.injEq, Value.int.injEq, Value.bool.injEq, true_and, and_true] at h
  obtain ⟨rfl, rfl, rfl, rfl, rfl, rfl, rfl, rfl, rfl⟩ := h
  rfl

theorem I64.wf {n : Int} (h : I64 n) : (Lit.int .i64 n).wf = true := by
  simp only [Lit.wf, IntKind.has, Bool.and_eq_true, decide_eq_true_eq]
  have e1 : IntKind.min .i64 = -9223372036854775808 := by decide
  have e2 : IntKind.max .i64 = 9223372036854775807 := by decide
  rw [e1, e2]
  exact h

theorem kl_int (d : Nat) (n : Int) (h : I64 n) : Tryz.prog.keyLits (d + 1) 3 [.int .i64 n] = some [.int .i64 n] := by
  simp [Program.keyLits, Tryz.underlying3, h.wf]
theorem kl_bool (d : Nat) (b : Bool) : Tryz.prog.keyLits (d + 1) 4 [.bool b] = some [.bool b] := by
  simp [Program.keyLits, Tryz.underlying4]
theorem kl_row (d : Nat) (r : Row) (h : r.ok) : Tryz.prog.keyLits (d + 2) 56 [.int .i64 r.k, .int .i64 r.t, .int .i64 r.v] = some [.int .i64 r.k, .int .i64 r.t, .int .i64 r.v] := by
  obtain ⟨h1, h2, h3⟩ := h
  simp [Program.keyLits, Tryz.underlying56, Tryz.underlying3, cellsRow, cellsInt, h1.wf, h2.wf, h3.wf]
theorem kl_out (d : Nat) (x : Out) (h : x.ok) : ∃ ls, Tryz.prog.keyLits (d + 3) 58 x.cells = some ls := by
  obtain ⟨h1, h2, h3⟩ := h
  rw [Program.keyLits.eq_def]
  simp [Tryz.underlying58, Out.cells, cellsOut, cellsRow, cellsInt, cellsBool, kl_int (d + 1) _ h1, kl_row d _ h2, kl_row d _ h3, kl_bool (d + 1)]

theorem outSize : ∃ d, Tryz.prog.types.size + 1 = d + 3 := ⟨Tryz.prog.types.size - 2, by
  have : 2 ≤ Tryz.prog.types.size := of_decide_eq_true (by kernel_rfl)
  omega⟩
theorem outKeyType : Tryz.prog.keyType 58 = true := by kernel_rfl
theorem keyO (x : Out) (h : x.ok) : ∃ l, keyOf Tryz.prog 58 (encO x) = some l := by
  obtain ⟨d, hd⟩ := outSize
  obtain ⟨ls, hl⟩ := kl_out d x h
  unfold keyOf
  rw [Tryz.underlying58]
  have hf : (encO x).formed Tryz.prog 58 = true := by simp [encO, Value.formed, Tryz.underlying58, cellsOut]
  have hc : (encO x).cells.toList = x.cells := rfl
  simp only [outKeyType, hf, hc, Bool.and_self, if_true]
  rw [hd, hl]
  exact ⟨_, rfl⟩
theorem outLaw : Go.Maps.Keyed Tryz.prog 58 :=
  Go.Maps.Keyed.of_law (deep_law_laid laidOut (m := 3) (by omega) (of_decide_eq_true (by kernel_rfl)) (by kernel_rfl) (by kernel_rfl))
theorem zeroInt (w : World) : (zeroValue 3).run Tryz.prog w = .ok (.int .i64 0) w := by kernel_rfl

/-! ### how many of each -/
/-- These pairs say of each Out how many there are of it. -/
def Counts (m : List (Out × Value)) (l : List Out) : Prop := ∀ x, mlook m x = if l.count x = 0 then none else some (.int .i64 (l.count x))

theorem Counts.getD {m : List (Out × Value)} {l : List Out} (h : Counts m l) (x : Out) : (mlook m x).getD (.int .i64 0) = .int .i64 (l.count x) := by
  rw [h x]
  split
  · rename_i h0; rw [h0]; rfl
  · rfl

theorem look_putK {α : Type} [DecidableEq α] (m : List (α × Value)) (x y : α) (v : Value) : mlook (putK m x v) y = if y = x then some v else mlook m y := by
  unfold putK
  by_cases hs : (mlook m x).isSome = true
  · rw [if_pos hs]
    by_cases hy : y = x
    · subst hy
      rw [if_pos rfl]
      have : ∀ l : List (α × Value), (mlook l y).isSome = true → mlook (l.map fun p => if p.1 = y then (y, v) else p) y = some v := by
        intro l
        induction l with
        | nil => simp [mlook]
        | cons p r ih =>
          intro h
          by_cases hp : p.1 = y
          · simp [mlook, hp]
          · have h' : (mlook r y).isSome = true := by simpa [mlook, List.find?_cons, hp] using h
            have := ih h'
            simpa [mlook, List.find?_cons, hp] using this
      exact this m hs
    · rw [if_neg hy]
      clear hs
      induction m with
      | nil => rfl
      | cons p r ih =>
        by_cases hp : p.1 = x
        · have hpy : ¬ p.1 = y := fun e => hy (e.symm.trans hp)
          simp only [mlook, List.map_cons, hp, if_true, List.find?_cons] at ih ⊢
          have hxy : ¬ x = y := fun e => hy e.symm
          simp only [hxy, decide_false, hpy]
          exact ih
        · by_cases hpy : p.1 = y
          · simp [mlook, hpy, hy]
          · simp only [mlook, List.map_cons, hp, if_false, List.find?_cons, hpy, decide_false] at ih ⊢
            exact ih
  · rw [if_neg hs]
    have hn : mlook m x = none := by simpa using hs
    by_cases hy : y = x
    · subst hy
      rw [if_pos rfl]
      have hab := mlook_none_iff.1 hn
      unfold mlook
      rw [List.find?_append, List.find?_eq_none.2 (fun p hp => by simpa using hab p hp)]
      simp
    · rw [if_neg hy]
      have hxy : ¬ x = y := fun e => hy e.symm
      unfold mlook
      rw [List.find?_append]
      simp [hxy]
theorem look_delK {α : Type} [DecidableEq α] (m : List (α × Value)) (x y : α) : mlook (delK m x) y = if y = x then none else mlook m y := by
  by_cases hy : y = x
  · subst hy
    rw [if_pos rfl]
    exact mlook_none (fun p hp => by unfold delK at hp; simpa using (List.mem_filter.1 hp).2)
  · rw [if_neg hy]
    unfold delK
    induction m with
    | nil => rfl
    | cons p r ih =>
      by_cases hp : p.1 = x
      · have hpy : ¬ p.1 = y := fun e => hy (e.symm.trans hp)
        rw [List.filter_cons_of_neg (by simp [hp])]
        rw [ih]
        simp [mlook, List.find?_cons, hpy]
      · rw [List.filter_cons_of_pos (by simp [hp])]
        by_cases hpy : p.1 = y
        · simp [mlook, List.find?_cons, hpy]
        · simp only [mlook, List.find?_cons, hpy, decide_false] at ih ⊢
          exact ih

theorem Counts.nil : Counts [] [] := fun x => by simp [mlook]
theorem Counts.add {m : List (Out × Value)} {l : List Out} (h : Counts m l) (x : Out) : Counts (putK m x (.int .i64 (((l.count x : Nat) : Int) + 1))) (x :: l) := by
  intro y
  rw [look_putK]
  by_cases hy : y = x
  · subst hy; simp
  · have hxy : ¬ x = y := fun e => hy e.symm
    simp only [if_neg hy, h y]
    simp [List.count_cons, hxy]
theorem count_erase_other {l : List Out} {x y : Out} (h : ¬ y = x) : (l.erase x).count y = l.count y := by
  rw [List.count_erase_of_ne]
  exact fun e => h (by simpa using e)
theorem Counts.dec {m : List (Out × Value)} {l : List Out} (h : Counts m l) (x : Out) (hx : 1 < l.count x) : Counts (putK m x (.int .i64 (((l.count x : Nat) : Int) - 1))) (l.erase x) := by
  intro y
  rw [look_putK]
  by_cases hy : y = x
  · subst hy
    rw [if_pos rfl, List.count_erase_self, if_neg (by omega)]
    congr 2; omega
  · simp only [if_neg hy, h y, count_erase_other hy]
theorem Counts.del {m : List (Out × Value)} {l : List Out} (h : Counts m l) (x : Out) (v : Value) (hx : l.count x = 1) : Counts (delK (putK m x v) x) (l.erase x) := by
  intro y
  rw [look_delK, look_putK]
  by_cases hy : y = x
  · subst hy
    rw [if_pos rfl, List.count_erase_self, if_pos (by omega)]
  · simp only [if_neg hy, h y, count_erase_other hy]

/-- So many of a pair's Out. -/
def flat1 (p : Out × Value) : List Out := match p.2 with | .int _ n => List.replicate n.toNat p.1 | _ => []
def flat (m : List (Out × Value)) : List Out := m.flatMap flat1

theorem Counts.perm {m : List (Out × Value)} {l : List Out} (h : Counts m l) (hn : (m.map (·.1)).Nodup) : (flat m).Perm l := by
  rw [List.perm_iff_count]
  intro x
  have key : ∀ m : List (Out × Value), (m.map (·.1)).Nodup → (∀ p ∈ m, ∃ c : Nat, p.2 = .int .i64 c) → (flat m).count x = match mlook m x with | some (.int _ n) => n.toNat | _ => 0 := by
    intro m
    induction m with
    | nil => intro _ _; simp [flat, mlook]
    | cons p r ih =>
      intro hn hp
      simp only [List.map_cons, List.nodup_cons] at hn
      obtain ⟨c, hc⟩ := hp p (by simp)
      have hr := ih hn.2 (fun q hq => hp q (by simp [hq]))
      have e1 : flat (p :: r) = List.replicate c p.1 ++ flat r := by simp [flat, flat1, hc]
      rw [e1, List.count_append, hr]
      by_cases hx : p.1 = x
      · have hno : mlook r x = none := mlook_none (fun q hq e => hn.1 (List.mem_map.2 ⟨q, hq, e.trans hx.symm⟩))
        rw [hno]
        simp [mlook, hx, hc]
      · rw [List.count_replicate]
        simp [mlook, List.find?_cons, hx]
  have hv : ∀ p ∈ m, ∃ c : Nat, p.2 = .int .i64 c := by
    intro p hp
    have := mlook_mem hn (x := p.1) (v := p.2) hp
    rw [h p.1] at this
    split at this
    · cases this
    · exact ⟨_, (Option.some.inj this).symm⟩
  rw [key m hn hv, h x]
  by_cases h0 : l.count x = 0
  · rw [if_pos h0, h0]
  · rw [if_neg h0]; simp
end Go.Proofs.YtmcgnnmffeojpaaGreatDoor
