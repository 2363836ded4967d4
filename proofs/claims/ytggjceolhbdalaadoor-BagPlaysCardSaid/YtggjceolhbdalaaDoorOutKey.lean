/- Outs as keys of a map; how many there are of each, as a map's pairs. -/
import Derived.Test.YtggjceolhbdalaaDoorMapIs
import Derived.Test.YtggjceolhbdalaaDoorSliceArgs
import Derived.DeepKeys4
namespace Go.Proofs.YtggjceolhbdalaaDoor
open Go.RowKit Go.Plan Go.ChangeShapes Go.WideShapes

/-- An Out as a value. -/
def encO (x : Out) : Value := .agg #[.int .i64 x.key, .int .i64 x.l.k, .int .i64 x.l.t, .int .i64 x.l.v, .int .i64 x.r.k, .int .i64 x.r.t, .int .i64 x.r.v, .bool x.hl, .bool x.hr]
theorem encO_inj (x y : Out) (h : encO x = encO y) : x = y := by
  obtain ⟨a, ⟨b, c, d⟩, ⟨e, f, g⟩, i, j⟩ := x
  obtain ⟨a', ⟨b', c', d'⟩, ⟨e', f', g'⟩, i', j'⟩ := y
  simp only [encO, Value.agg.injEq, Array.mk.injEq, List.cons.injEq, Value.int.injEq, Value.bool.injEq, true_and, and_true] at h
  obtain ⟨rfl, rfl, rfl, rfl, rfl, rfl, rfl, rfl, rfl⟩ := h
  rfl

theorem I64.wf {n : Int} (h : I64 n) : (Lit.int .i64 n).wf = true := by
  simp only [Lit.wf, IntKind.has, Bool.and_eq_true, decide_eq_true_eq]
  have e1 : IntKind.min .i64 = -9223372036854775808 := by decide
  have e2 : IntKind.max .i64 = 9223372036854775807 := by decide
  rw [e1, e2]
  exact h

theorem kl_int (d : Nat) (n : Int) (h : I64 n) : Tryd.prog.keyLits (d + 1) 3 [.int .i64 n] = some [.int .i64 n] := by
  simp [Program.keyLits, Tryd.underlying3, h.wf]
theorem kl_bool (d : Nat) (b : Bool) : Tryd.prog.keyLits (d + 1) 4 [.bool b] = some [.bool b] := by
  simp [Program.keyLits, Tryd.underlying4]
theorem kl_row (d : Nat) (r : Row) (h : r.ok) : Tryd.prog.keyLits (d + 2) 43 [.int .i64 r.k, .int .i64 r.t, .int .i64 r.v] = some [.int .i64 r.k, .int .i64 r.t, .int .i64 r.v] := by
  obtain ⟨h1, h2, h3⟩ := h
  simp [Program.keyLits, Tryd.underlying43, Tryd.underlying3, cellsRow, cellsInt, h1.wf, h2.wf, h3.wf]
theorem kl_out (d : Nat) (x : Out) (h : x.ok) : ∃ ls, Tryd.prog.keyLits (d + 3) 45 x.cells = some ls := by
  obtain ⟨h1, h2, h3⟩ := h
  rw [Program.keyLits.eq_def]
  simp [Tryd.underlying45, Out.cells, cellsOut, cellsRow, cellsInt, cellsBool, kl_int (d + 1) _ h1, kl_row d _ h2, kl_row d _ h3, kl_bool (d + 1)]

theorem outSize : ∃ d, Tryd.prog.types.size + 1 = d + 3 := ⟨Tryd.prog.types.size - 2, by
  have : 2 ≤ Tryd.prog.types.size := of_decide_eq_true (by kernel_rfl)
  omega⟩
theorem outKeyType : Tryd.prog.keyType 45 = true := by kernel_rfl
theorem keyO (x : Out) (h : x.ok) : ∃ l, keyOf Tryd.prog 45 (encO x) = some l := by
  obtain ⟨d, hd⟩ := outSize
  obtain ⟨ls, hl⟩ := kl_out d x h
  unfold keyOf
  rw [Tryd.underlying45]
  have hf : (encO x).formed Tryd.prog 45 = true := by simp [encO, Value.formed, Tryd.underlying45, cellsOut]
  have hc : (encO x).cells.toList = x.cells := rfl
  simp only [outKeyType, hf, hc, Bool.and_self, if_true]
  rw [hd, hl]
  exact ⟨_, rfl⟩
theorem outLaw : Go.Maps.Keyed Tryd.prog 45 :=
  Go.Maps.Keyed.of_law (deep_law_laid laidOut (m := 3) (by omega) (of_decide_eq_true (by kernel_rfl)) (by kernel_rfl) (by kernel_rfl))
theorem zeroInt (w : World) : (zeroValue 3).run Tryd.prog w = .ok (.int .i64 0) w := by kernel_rfl

/-! ### how many of each -/
/-- These pairs say of each Out how many there are of it. -/
def Counts (m : List (Out × Value)) (l : List Out) : Prop := ∀ x, mlook m x = if l.count x = 0 then none else some (.int .i64 (l.count x))

theorem Counts.getD {m : List (Out × Value)} {l : List Out} (h : Counts m l) (x : Out) : (mlook m x).getD (.int .i64 0) = .int .i64 (l.count x) := by
  rw [h x]
  split
  · rename_i h0; rw [h0]; rfl
  · rfl

theorem look_putK {α : Type} [DecidableEq α] (m : List (α × Value)) (x y : α) (v : Value) : mlook (putK m x v) y = if y = x then some v else mlook m y := by
  unfold putK
  by_cases hs : (mlook m x).isSome = true
  · rw [if_pos hs]
    by_cases hy : y = x
    · subst hy
      rw [if_pos rfl]
      have : ∀ l : List (α × Value), (mlook l y).isSome = true → mlook (l.map fun p => if p.1 = y then (y, v) else p) y = some v := by
        intro l
        induction l with
        | nil => simp [mlook]
        | cons p r ih =>
          intro h
          by_cases hp : p.1 = y
          · simp [mlook, hp]
          · have h' : (mlook r y).isSome = true := by simpa [mlook, List.find?_cons, hp] using h
            have := ih h'
            simpa [mlook, List.find?_cons, hp] using this
      exact this m hs
    · rw [if_neg hy]
      clear hs
      induction m with
      | nil => rfl
      | cons p r ih =>
        by_cases hp : p.1 = x
        · have hpy : ¬ p.1 = y := fun e => hy (e.symm.trans hp)
          simp only [mlook, List.map_cons, hp, if_true, List.find?_cons] at ih ⊢
          have hxy : ¬ x = y := fun e => hy e.symm
          simp only [hxy, decide_false, hpy]
          exact ih
        · by_cases hpy : p.1 = y
          · simp [mlook, hpy, hy]
          · simp only [mlook, List.map_cons, hp, if_false, List.find?_cons, hpy, decide_false] at ih ⊢
            exact ih
  · rw [if_neg hs]
    have hn : mlook m x = none := by simpa using hs
    by_cases hy : y = x
    · subst hy
      rw [if_pos rfl]
      have hab := mlook_none_iff.1 hn
      unfold mlook
      rw [List.find?_append, List.find?_eq_none.2 (fun p hp => by simpa using hab p hp)]
      simp
    · rw [if_neg hy]
      have hxy : ¬ x = y := fun e => hy e.symm
      unfold mlook
      rw [List.find?_append]
      simp [hxy]
theorem look_delK {α : Type} [DecidableEq α] (m : List (α × Value)) (x y : α) : mlook (delK m x) y = if y = x then none else mlook m y := by
  by_cases hy : y = x
  · subst hy
    rw [if_pos rfl]
    exact mlook_none (fun p hp => by unfold delK at hp; simpa using (List.mem_filter.1 hp).2)
  · rw [if_neg hy]
    unfold delK
    induction m with
    | nil => rfl
    | cons p r ih =>
      by_cases hp : p.1 = x
      · have hpy : ¬ p.1 = y := fun e => hy (e.symm.trans hp)
        rw [List.filter_cons_of_neg (by simp [hp])]
        rw [ih]
        simp [mlook, List.find?_cons, hpy]
      · rw [List.filter_cons_of_pos (by simp [hp])]
        by_cases hpy : p.1 = y
        · simp [mlook, List.find?_cons, hpy]
        · simp only [mlook, List.find?_cons, hpy, decide_false] at ih ⊢
          exact ih

theorem Counts.nil : Counts [] [] := fun x => by simp [mlook]
theorem Counts.add {m : List (Out × Value)} {l : List Out} (h : Counts m l) (x : Out) : Counts (putK m x (.int .i64 (((l.count x : Nat) : Int) + 1))) (x :: l) := by
  intro y
  rw [look_putK]
  by_cases hy : y = x
  · subst hy; simp
  · have hxy : ¬ x = y := fun e => hy e.symm
    simp only [if_neg hy, h y]
    simp [List.count_cons, hxy]
theorem count_erase_other {l : List Out} {x y : Out} (h : ¬ y = x) : (l.erase x).count y = l.count y := by
  rw [List.count_erase_of_ne]
  exact fun e => h (by simpa using e)
theorem Counts.dec {m : List (Out × Value)} {l : List Out} (h : Counts m l) (x : Out) (hx : 1 < l.count x) : Counts (putK m x (.int .i64 (((l.count x : Nat) : Int) - 1))) (l.erase x) := by
  intro y
  rw [look_putK]
  by_cases hy : y = x
  · subst hy
    rw [if_pos rfl, List.count_erase_self, if_neg (by omega)]
    congr 2; omega
  · simp only [if_neg hy, h y, count_erase_other hy]
theorem Counts.del {m : List (Out × Value)} {l : List Out} (h : Counts m l) (x : Out) (v : Value) (hx : l.count x = 1) : Counts (delK (putK m x v) x) (l.erase x) := by
  intro y
  rw [look_delK, look_putK]
  by_cases hy : y = x
  · subst hy
    rw [if_pos rfl, List.count_erase_self, if_pos (by omega)]
  · simp only [if_neg hy, h y, count_erase_other hy]

/-- So many of a pair's Out. -/
def flat1 (p : Out × Value) : List Out := match p.2 with | .int _ n => List.replicate n.toNat p.1 | _ => []
def flat (m : List (Out × Value)) : List Out := m.flatMap flat1

theorem Counts.perm {m : List (Out × Value)} {l : List Out} (h : Counts m l) (hn : (m.map (·.1)).Nodup) : (flat m).Perm l := by
  rw [List.perm_iff_count]
  intro x
  have key : ∀ m : List (Out × Value), (m.map (·.1)).Nodup → (∀ p ∈ m, ∃ c : Nat, p.2 = .int .i64 c) → (flat m).count x = match mlook m x with | some (.int _ n) => n.toNat | _ => 0 := by
    intro m
    induction m with
    | nil => intro _ _; simp [flat, mlook]
    | cons p r ih =>
      intro hn hp
      simp only [List.map_cons, List.nodup_cons] at hn
      obtain ⟨c, hc⟩ := hp p (by simp)
      have hr := ih hn.2 (fun q hq => hp q (by simp [hq]))
      have e1 : flat (p :: r) = List.replicate c p.1 ++ flat r := by simp [flat, flat1, hc]
      rw [e1, List.count_append, hr]
      by_cases hx : p.1 = x
      · have hno : mlook r x = none := mlook_none (fun q hq e => hn.1 (List.mem_map.2 ⟨q, hq, e.trans hx.symm⟩))
        rw [hno]
        simp [mlook, hx, hc]
      · rw [List.count_replicate]
        simp [mlook, List.find?_cons, hx]
  have hv : ∀ p ∈ m, ∃ c : Nat, p.2 = .int .i64 c := by
    intro p hp
    have := mlook_mem hn (x := p.1) (v := p.2) hp
    rw [h p.1] at this
    split at this
    · cases this
    · exact ⟨_, (Option.some.inj this).symm⟩
  rw [key m hn hv, h x]
  by_cases h0 : l.count x = 0
  · rw [if_pos h0, h0]
  · rw [if_neg h0]; simp
end Go.Proofs.YtggjceolhbdalaaDoor
