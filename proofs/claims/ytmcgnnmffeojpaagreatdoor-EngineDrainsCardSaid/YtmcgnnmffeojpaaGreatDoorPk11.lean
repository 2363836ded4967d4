/- Rows of a side in memory; slices.Insert of one. -/
import Derived.Test.YtmcgnnmffeojpaaGreatDoorPk3
import Derived.Test.YtmcgnnmffeojpaaGreatDoorPk4
import Derived.Maps.AppendAt
import Derived.Lib.LazyBuf
import Derived.Laws.IdiomCopy
import Derived.Lib.Overlaps
import Derived.Lib.AppendZerosOnto
import Derived.Lib.AppendZeros
import Derived.Laws.NewBlocks
import Derived.Laws.Externs
import Derived.Laws.IdiomRangeMap
import Derived.WalkSpells
import Derived.Carry
import Derived.OwnWalk
import Derived.Lib.Hide
/- Rows of elements of K cells that a call owns: reading, copying, cutting. Rows of elements of K cells: one more behind, one other in its place. Rows of elements of K cells: all of another row behind; what an append leaves, as a law of the walk. -/
-- KRow
namespace Go.Plan
open Go.RowKit

section
variable {α : Type} {enc : α → List Value} {K : Nat} {T : TypeId}

theorem flat_len (hK : ∀ x, (enc x).length = K) (l : List α) : (l.flatMap enc).length = l.length * K := by
  induction l with
  | nil => simp
  | cons x r ih => rw [List.flatMap_cons, List.length_append, ih, hK, List.length_cons, Nat.succ_mul]; omega
theorem flat_get (hK : ∀ x, (enc x).length = K) (l : List α) (i c : Nat) (hi : i < l.length) (hc : c < K) : (l.flatMap enc)[i * K + c]? = (enc (l[i]'hi))[c]? := by
  induction l generalizing i with
  | nil => simp at hi
  | cons x r ih =>
    rw [List.flatMap_cons]
    cases i with
    | zero => rw [List.getElem?_append_left (by rw [hK]; omega)]; simp
    | succ i =>
      rw [List.getElem?_append_right (by rw [hK, Nat.succ_mul]; omega), hK]
      have := ih i (by simpa using hi)
      rw [show (i + 1) * K + c - K = i * K + c by rw [Nat.succ_mul]; omega, this]
      simp
theorem flat_take (hK : ∀ x, (enc x).length = K) (l : List α) (i : Nat) : (l.take i).flatMap enc = (l.flatMap enc).take (i * K) := by
  induction l generalizing i with
  | nil => simp
  | cons x r ih =>
    cases i with
    | zero => simp
    | succ i =>
      have e1 : (enc x).take (i * K + K) = enc x := List.take_of_length_le (by rw [hK]; omega)
      have e2 : i * K + K - K = i * K := by omega
      rw [List.take_succ_cons, List.flatMap_cons, List.flatMap_cons, ih, List.take_append, hK, Nat.succ_mul, e1, e2]
theorem flat_drop (hK : ∀ x, (enc x).length = K) (l : List α) (i : Nat) : (l.drop i).flatMap enc = (l.flatMap enc).drop (i * K) := by
  induction l generalizing i with
  | nil => simp
  | cons x r ih =>
    cases i with
    | zero => simp
    | succ i =>
      have e1 : (enc x).drop (i * K + K) = [] := List.drop_of_length_le (by rw [hK]; omega)
      have e2 : i * K + K - K = i * K := by omega
      rw [List.drop_succ_cons, List.flatMap_cons, ih, List.drop_append, hK, Nat.succ_mul, e1, e2, List.nil_append]

/-- A row that is known cell by cell owns what its first cells say. -/
theorem own_of_rowIs {w : World} {g cap n b : Nat} {f : Nat → Value} {xs : List Value} (h : w.rowIs g T (cap * K) f) (hb : b ≤ g) (hn : n ≤ cap) (hc : cap ≤ maxLen) (hl : xs.length = n * K) (hf : ∀ j, j < n * K → xs[j]? = some (f j)) : w.ownsRow b T K (.slice (some ⟨g, 0, none⟩) n cap) n xs := by
  obtain ⟨c, h1, h2, h3⟩ := h
  have hnc : n * K ≤ cap * K := Nat.mul_le_mul_right K hn
  refine ⟨hl, .inr ⟨g, cap, c, rfl, hb, h1, hn, hc, h2, ?_⟩⟩
  apply List.ext_getElem?
  intro j
  rcases Nat.lt_or_ge j (n * K) with hj | hj
  · rw [List.getElem?_take_of_lt hj, Array.getElem?_toList, h3 j (by omega), hf j hj]
  · rw [List.getElem?_eq_none (by rw [List.length_take, Array.length_toList]; omega), List.getElem?_eq_none (by omega)]
theorem rowIs_of_own {w : World} {b n : Nat} {v : Value} {xs : List Value} (h : w.ownsRow b T K v n xs) : (v = .slice none 0 0 ∧ n = 0) ∨ ∃ g cap f, v = .slice (some ⟨g, 0, none⟩) n cap ∧ b ≤ g ∧ w.rowIs g T (cap * K) f ∧ n ≤ cap ∧ cap ≤ maxLen ∧ ∀ j, j < n * K → xs[j]? = some (f j) := by
  obtain ⟨hl, h⟩ := h
  rcases h with h | ⟨g, cap, cur, rfl, e1, e2, e3, e4, e5, e6⟩
  · exact .inl h
  · refine .inr ⟨g, cap, fun j => (cur[j]?).getD default, rfl, e1, ⟨cur, e2, e5, fun j hj => ?_⟩, e3, e4, fun j hj => ?_⟩
    · simp only [Array.getElem?_eq_getElem (show j < cur.size by omega)]; rfl
    · have hnc : n * K ≤ cap * K := Nat.mul_le_mul_right K e3
      rw [← e6, List.getElem?_take_of_lt hj, Array.getElem?_toList]
      simp only [Array.getElem?_eq_getElem (show j < cur.size by omega)]; rfl
theorem own_ext {w w' : World} {b n sz : Nat} {e : TypeId} {v : Value} {xs : List Value} {M : Nat → Prop} (h : w.ownsRow b e sz v n xs) (hx : ExtM M w w') (hM : ∀ k, v.ownBlock = some k → ¬ M k) : w'.ownsRow b e sz v n xs := by
  obtain ⟨h1, h2⟩ := h
  refine ⟨h1, ?_⟩
  rcases h2 with h2 | ⟨g, cap, cur, rfl, e2, e3, e4⟩
  · exact .inl h2
  · exact .inr ⟨g, cap, cur, rfl, e2, (hx.block g (Array.getElem?_eq_some_iff.1 e3).1 (hM g rfl)).trans e3, e4⟩
theorem own_lt {w : World} {b n sz : Nat} {e : TypeId} {v : Value} {xs : List Value} (h : w.ownsRow b e sz v n xs) (k : Nat) (hk : v.ownBlock = some k) : b ≤ k ∧ k < w.heap.size := by
  rcases h.2 with ⟨rfl, -⟩ | ⟨g, cap, cur, rfl, e2, e3, e4⟩
  · cases hk
  · have := Option.some.inj hk
    simp at this
    subst this
    exact ⟨e2, (Array.getElem?_eq_some_iff.1 e3).1⟩
theorem own_weaken {w : World} {b b' n sz : Nat} {e : TypeId} {v : Value} {xs : List Value} (h : w.ownsRow b e sz v n xs) (hb : b' ≤ b) : w.ownsRow b' e sz v n xs := by
  obtain ⟨h1, h2⟩ := h
  refine ⟨h1, ?_⟩
  rcases h2 with h2 | ⟨g, cap, cur, e1, e2, e3⟩
  · exact .inl h2
  · exact .inr ⟨g, cap, cur, e1, by omega, e3⟩
theorem own_slice {w : World} {b n sz : Nat} {e : TypeId} {v : Value} {xs : List Value} (h : w.ownsRow b e sz v n xs) : ∃ p cap, v = .slice p n cap ∧ n ≤ cap := by
  rcases h.2 with ⟨rfl, h0⟩ | ⟨g, cap, cur, rfl, e2, e3, e4, e5⟩
  · exact ⟨none, 0, by rw [h0], by omega⟩
  · exact ⟨_, cap, rfl, e4⟩
/-- The cells of the j-th element. -/
theorem own_cell {w : World} {b : Nat} {v : Value} {xs : List α} (hK : ∀ x, (enc x).length = K) (h : w.ownsRow b T K v xs.length (xs.flatMap enc)) (j c : Nat) (hj : j < xs.length) (hc : c < K) :
    ∃ g cap, v = .slice (some ⟨g, 0, none⟩) xs.length cap ∧ g < w.heap.size ∧ w.cell? ⟨g, j * K + c, none⟩ = (enc (xs[j]'hj))[c]? ∧ w.frozen? ⟨g, j * K + c, none⟩ = false := by
  rcases h.2 with ⟨rfl, h0⟩ | ⟨g, cap, cur, rfl, e2, e3, e4, e5, e6, e7⟩
  · omega
  · refine ⟨g, cap, rfl, (Array.getElem?_eq_some_iff.1 e3).1, ?_, by simp [World.frozen?, e3]⟩
    have e1 := flat_get hK xs j c hj hc
    have hlt : j * K + c < xs.length * K := by
      have : (j + 1) * K ≤ xs.length * K := Nat.mul_le_mul_right K hj
      rw [Nat.succ_mul] at this; omega
    rw [← e7, List.getElem?_take_of_lt hlt, Array.getElem?_toList] at e1
    simpa [World.cell?, e3] using e1
end

section
variable {P : Program}
/-- 'copy(d, s)' at elements of k cells: all is read before anything is written. -/
theorem run_copy_k (k : Nat) (w : World) (dT sT ty elem : TypeId) (b o dLen dCap : Nat) (a : Addr) (sLen sCap : Nat) (cs : List Value)
    (hu : P.underlying dT = some (.slice elem)) (hs : (P.info? elem).map (·.size) = some k) (m : Nat) (hm : m = Nat.min sLen dLen) (hn : cs.length = m * k)
    (hsrc : ∀ j v, cs[j]? = some v → w.cell? (a.add j) = some v) (hc : ∀ j, j < cs.length → (w.cell? ⟨b, o + j, none⟩).isSome = true) (hf : ∀ j, j < cs.length → w.frozen? ⟨b, o + j, none⟩ = false) (h1 : ∀ v ∈ cs, v.oneCell' = true) :
    (Builtin.copy_ #[dT, sT] ty #[.slice (some ⟨b, o, none⟩) dLen dCap, .slice (some a) sLen sCap]).run P w = .ok (goInt m) (w.setCells b o cs) := by
  have hl := run_loadCells_list (P := P) w a cs hsrc
  have hst := run_storeCells_cells (P := P) b o cs 0 w (by simpa using hc) (by simpa using hf) h1
  cases hq : P.info? elem with
  | none => simp [hq] at hs
  | some i =>
    have hi : i.size = k := by simpa [hq] using hs
    rw [hn] at hl
    simp [Builtin.copy_, run_underlying hu, Builtin.lenOf, Builtin.firstCells, sizeOf, typeInfo, hq, hi, ← hm, hl, hst]
theorem isSome_setCells' (b : Nat) (vs : List Value) (o : Nat) (w : World) (h : ∀ j, j < vs.length → (w.cell? ⟨b, o + j, none⟩).isSome = true) (k : Nat) (hk : (w.cell? ⟨b, k, none⟩).isSome = true) : ((w.setCells b o vs).cell? ⟨b, k, none⟩).isSome = true := by
  by_cases hin : o ≤ k ∧ k < o + vs.length
  · have := World.cell?_setCells_in b vs o w h (k - o) (by omega)
    rw [show o + (k - o) = k by omega] at this
    rw [this]; rfl
  · rw [World.cell?_setCells_out b vs o w ⟨b, k, none⟩ (fun _ _ => by show k < o ∨ o + vs.length ≤ k; omega)]
    exact hk
theorem ext_setCells' (g : Nat) : ∀ (vs : List Value) (o : Nat) (w : World), ExtM (fun k => k = g) w (w.setCells g o vs)
  | [], _, w => ExtM.refl w
  | v :: r, o, w => ExtM.trans _ _ _ (ExtM.setCell (M := fun k => k = g) (ExtM.refl w) (p := ⟨g, o, none⟩) (.inr rfl) v) (ext_setCells' g r (o + 1) _)
theorem wpList_copy_run' (w : World) {ops : Array Oper} {rest : List Oper} {o : Oper} {a : Act} {Q : Exit → Act → World → Prop} (hgd : o.guard = none) (d s : Operand) (t t' : TypeId)
    (ho : o.op = .call { callee := .builtin .copy, args := #[d, s], argTypes := #[t, t'] }) (v u : Value) (hd : a.eval d = v) (hs : a.eval s = u) {v' : Value} {w' : World}
    (hr : (Builtin.copy_ #[t, t'] o.type #[v, u]).run P w = .ok v' w') (h : wpList P ops Q rest (a.put o.dst v') w') : wpList P ops Q (o :: rest) a w := by
  refine wpList_plain hgd fun K hK => ?_
  unfold Oper.wp execOp
  simp only [ho, resolve, invoke, builtin, Sem.run_bind, Sem.run_pure, Result.andThen_ok, List.map_toArray, List.map_cons, List.map_nil, hd, hs, hr]
  exact hK _ _ h
theorem wp_copy_run' (w : World) {o : Oper} {a : Act} {K : Act → World → Prop} {Q : Exit → Act → World → Prop} (d s : Operand) (t t' : TypeId)
    (ho : o.op = .call { callee := .builtin .copy, args := #[d, s], argTypes := #[t, t'] }) (v u : Value) (hd : a.eval d = v) (hs : a.eval s = u) {v' : Value} {w' : World}
    (hr : (Builtin.copy_ #[t, t'] o.type #[v, u]).run P w = .ok v' w') (h : K (a.put o.dst v') w') : o.wp P a w K Q := by
  unfold Oper.wp execOp
  simp only [ho, resolve, invoke, builtin, Sem.run_bind, Sem.run_pure, Result.andThen_ok, List.map_toArray, List.map_cons, List.map_nil, hd, hs, hr]
  exact h
theorem wpList_append_run {w w' : World} {ops : Array Oper} {rest : List Oper} {o : Oper} {a : Act} {Q : Exit → Act → World → Prop} {t ty : TypeId} {v x v' : Value} (hr : (Builtin.append_ #[t, t] ty #[v, x]).run P w = .ok v' w') (hgd : o.guard = none) (hty : o.type = ty) (so xo : Operand)
    (ho : o.op = .call { callee := .builtin .append, args := #[so, xo], argTypes := #[t, t] }) (hs : a.eval so = v) (hx : a.eval xo = x) (h : wpList P ops Q rest (a.put o.dst v') w') : wpList P ops Q (o :: rest) a w := by
  refine wpList_plain hgd fun K hK' => ?_
  subst hty
  unfold Oper.wp execOp
  simp only [ho, resolve, invoke, builtin, Sem.run_bind, Sem.run_pure, Result.andThen_ok, List.map_toArray, List.map_cons, List.map_nil, hs, hx, hr]
  exact hK' _ _ h
theorem wp_append_run {w w' : World} {o : Oper} {a : Act} {K : Act → World → Prop} {Q : Exit → Act → World → Prop} {t ty : TypeId} {v x v' : Value} (hr : (Builtin.append_ #[t, t] ty #[v, x]).run P w = .ok v' w') (hty : o.type = ty) (so xo : Operand)
    (ho : o.op = .call { callee := .builtin .append, args := #[so, xo], argTypes := #[t, t] }) (hs : a.eval so = v) (hx : a.eval xo = x) (h : K (a.put o.dst v') w') : o.wp P a w K Q := by
  subst hty
  unfold Oper.wp execOp
  simp only [ho, resolve, invoke, builtin, Sem.run_bind, Sem.run_pure, Result.andThen_ok, List.map_toArray, List.map_cons, List.map_nil, hs, hx, hr]
  exact h
end
end Go.Plan

-- KRow2
namespace Go.Plan
open Go.RowKit

section
variable {P : Program} {α : Type} {enc : α → List Value} {K : Nat} {T : TypeId}

/-- 'append(v, x)' of one element. -/
theorem run_appendK (hK : ∀ x, (enc x).length = K) (h1 : ∀ x, ∀ u ∈ enc x, u.oneCell' = true) (ts : TypeId) (z : Value) (bytes : Nat) (hinfo : (P.info? T).map (fun i => (i.zero, i.size, i.bytes)) = some (some z, K, bytes)) (hz : z.cells.size = K) (hK0 : 0 < K) (hu : P.underlying ts = some (.slice T)) (hby : bytes ≤ 1000)
    (W : World) (base nb c : Nat) (v : Value) (acc : List α) (x : α) (ty : TypeId) (hown : W.ownsRow base T K v acc.length (acc.flatMap enc)) (hx : ∀ j u, (enc x)[j]? = some u → W.cell? ⟨nb, j, none⟩ = some u) (hl : acc.length < 1000000) (hb : base ≤ W.heap.size) :
    ∃ v' w', (Builtin.append_ #[ts, ts] ty #[v, .slice (some ⟨nb, 0, none⟩) 1 c]).run P W = .ok v' w' ∧ w'.ownsRow base T K v' (acc ++ [x]).length ((acc ++ [x]).flatMap enc) ∧ ExtM (fun k => v.ownBlock = some k) W w' ∧ (v'.ownBlock = v.ownBlock ∨ ∃ k, v'.ownBlock = some k ∧ W.heap.size ≤ k) := by
  obtain ⟨i0, hi, hz0, hz1, hz2⟩ := info_parts hinfo
  obtain ⟨v', w', h1', h2, h3, -, h5⟩ := run_append_own_at (P := P) W base ts ty T i0 z K bytes hu hi hz0 hz1 hz2 hz hK0 v acc.length _ hown ⟨nb, 0, none⟩ 1 c (enc x) (by rw [hK, Nat.one_mul])
    (fun j u hj => by
      have e1 : (⟨nb, 0, none⟩ : Addr).add j = ⟨nb, j, none⟩ := by unfold Addr.add; split <;> simp_all
      rw [e1]; exact hx j u hj) (h1 x) (by unfold maxLen; omega) (by
        have h9 : (acc.length + 1) * bytes ≤ (acc.length + 1) * 1000 := Nat.mul_le_mul_left _ hby
        omega) hb
  refine ⟨v', w', h1', ?_, ⟨h3.os, h3.tape, h3.output, h3.size, fun k hk hn => h3.block k hk (fun e => hn e.symm)⟩, ?_⟩
  · rw [List.flatMap_append, List.length_append]
    simpa using h2
  · rcases h5 with h | h
    · exact .inl h
    · exact .inr ⟨_, h, Nat.le_refl _⟩

theorem flat_set (hK : ∀ x, (enc x).length = K) (l : List α) (i c : Nat) (hi : i < l.length) (hc : c < K) (u : Value) (x' : α) (hx : enc x' = (enc (l[i]'hi)).set c u) : (l.set i x').flatMap enc = (l.flatMap enc).set (i * K + c) u := by
  induction l generalizing i with
  | nil => simp at hi
  | cons x r ih =>
    cases i with
    | zero =>
      rw [List.set_cons_zero, List.flatMap_cons, List.flatMap_cons, List.set_append_left _ _ (by rw [hK]; omega), hx]
      simp
    | succ i =>
      rw [List.set_cons_succ, List.flatMap_cons, List.flatMap_cons, List.set_append_right _ _ (by rw [hK, Nat.succ_mul]; omega), hK, ih i (by simpa using hi) (by simpa using hx)]
      congr 2
      rw [Nat.succ_mul]; omega

/-- One cell of one element is another one. -/
theorem own_setCell (hK : ∀ x, (enc x).length = K) {w : World} {b g cap : Nat} {xs : List α} (h : w.ownsRow b T K (.slice (some ⟨g, 0, none⟩) xs.length cap) xs.length (xs.flatMap enc)) (i c : Nat) (hi : i < xs.length) (hc : c < K) (u : Value) (x' : α) (hx : enc x' = (enc (xs[i]'hi)).set c u) :
    (w.setCell ⟨g, i * K + c, none⟩ u).ownsRow b T K (.slice (some ⟨g, 0, none⟩) xs.length cap) (xs.set i x').length ((xs.set i x').flatMap enc) := by
  obtain ⟨hl, h⟩ := h
  rcases h with ⟨h0, -⟩ | ⟨g', cap', cur, he, e1, e2, e3, e4, e5, e6⟩
  · cases h0
  injection he with he1 he2 he3
  injection he1 with he1
  injection he1 with he1
  subst he1
  subst he3
  rw [flat_set hK xs i c hi hc u x' hx, List.length_set]
  refine ⟨by rw [List.length_set, hl], .inr ⟨g, cap, cur.setIfInBounds (i * K + c) u, rfl, e1, ?_, e3, e4, by rw [Array.size_setIfInBounds, e5], ?_⟩⟩
  · simp [World.setCell, Array.getElem?_modify, e2]
  · rw [Array.toList_setIfInBounds, ← e6, List.take_set]
end
end Go.Plan

-- KRow3
namespace Go.Plan
open Go.RowKit

section
variable {P : Program} {α : Type} {enc : α → List Value} {K : Nat} {T : TypeId}

/-- 'append(v, s...)' of a whole row. -/
theorem run_appendAllK (hK : ∀ x, (enc x).length = K) (h1 : ∀ x, ∀ u ∈ enc x, u.oneCell' = true) (ts : TypeId) (z : Value) (bytes : Nat) (hinfo : (P.info? T).map (fun i => (i.zero, i.size, i.bytes)) = some (some z, K, bytes)) (hz : z.cells.size = K) (hK0 : 0 < K) (hu : P.underlying ts = some (.slice T)) (hby : bytes ≤ 1000)
    (W : World) (base bs : Nat) (v s : Value) (acc xs : List α) (ty : TypeId) (hown : W.ownsRow base T K v acc.length (acc.flatMap enc)) (hs : W.ownsRow bs T K s xs.length (xs.flatMap enc)) (hl : acc.length + xs.length < 1000000) (hb : base ≤ W.heap.size) :
    ∃ v' w', (Builtin.append_ #[ts, ts] ty #[v, s]).run P W = .ok v' w' ∧ w'.ownsRow base T K v' (acc ++ xs).length ((acc ++ xs).flatMap enc) ∧ ExtM (fun k => v.ownBlock = some k) W w' ∧ (v'.ownBlock = v.ownBlock ∨ ∃ k, v'.ownBlock = some k ∧ W.heap.size ≤ k) := by
  obtain ⟨i0, hi, hz0, hz1, hz2⟩ := info_parts hinfo
  rcases rowIs_of_own hs with ⟨rfl, h0⟩ | ⟨g, cap, f, rfl, -, hg, hn, hc63, hf⟩
  · obtain rfl := List.eq_nil_of_length_eq_zero h0
    obtain ⟨p, c, rfl, hpc⟩ := own_slice hown
    refine ⟨.slice p acc.length c, W, ?_, by simpa using hown, ExtM.refl _, .inl rfl⟩
    cases p with
    | none => simp [Builtin.append_, run_underlying hu, Builtin.lenOf, Builtin.firstCells, sizeOf, typeInfo, hi, hpc]
    | some a => simp [Builtin.append_, run_underlying hu, Builtin.lenOf, Builtin.firstCells, sizeOf, typeInfo, hi, hpc, storeCells]
  · obtain ⟨v', w', h1', h2, h3, -, h5⟩ := run_append_own_at (P := P) W base ts ty T i0 z K bytes hu hi hz0 hz1 hz2 hz hK0 v acc.length _ hown ⟨g, 0, none⟩ xs.length cap (xs.flatMap enc) (flat_len hK xs)
      (fun j u hj => by
        have e1 : (⟨g, 0, none⟩ : Addr).add j = ⟨g, j, none⟩ := by unfold Addr.add; split <;> simp_all
        have hj2 : j < xs.length * K := by rw [← flat_len hK xs]; exact (List.getElem?_eq_some_iff.1 hj).1
        have hle : xs.length * K ≤ cap * K := Nat.mul_le_mul_right K hn
        rw [e1, hg.cell (by omega), ← hf j hj2, hj])
      (fun u hu => by obtain ⟨x, -, hx⟩ := List.mem_flatMap.1 hu; exact h1 x u hx) (by unfold maxLen; omega) (by
        have h9 : (acc.length + xs.length) * bytes ≤ (acc.length + xs.length) * 1000 := Nat.mul_le_mul_left _ hby
        omega) hb
    refine ⟨v', w', h1', ?_, ⟨h3.os, h3.tape, h3.output, h3.size, fun k hk hn => h3.block k hk (fun e => hn e.symm)⟩, ?_⟩
    · rw [List.flatMap_append, List.length_append]
      exact h2
    · rcases h5 with h | h
      · exact .inl h
      · exact .inr ⟨_, h, Nat.le_refl _⟩

/-- An append, by what it leaves. -/
theorem wp_append_law {w : World} {o : Oper} {a : Act} {K : Act → World → Prop} {Q : Exit → Act → World → Prop} {t : TypeId} {v x : Value} {R : Value → World → Prop} (hr : ∃ v' w', (Builtin.append_ #[t, t] o.type #[v, x]).run P w = .ok v' w' ∧ R v' w') (so xo : Operand)
    (ho : o.op = .call { callee := .builtin .append, args := #[so, xo], argTypes := #[t, t] }) (hs : a.eval so = v) (hx : a.eval xo = x) (h : ∀ v' w', R v' w' → K (a.put o.dst v') w') : o.wp P a w K Q := by
  obtain ⟨v', w', hr, hR⟩ := hr
  exact wp_append_run hr rfl so xo ho hs hx (h v' w' hR)
end
end Go.Plan
namespace Go.Proofs.YtmcgnnmffeojpaaGreatDoor
open Go.RowKit Go.Plan

/-- A row that is held, and how many it met. -/
structure Hd where
  r : Row
  m : Int
def Hd.cells (h : Hd) : List Value := [.int .i64 h.r.k, .int .i64 h.r.t, .int .i64 h.r.v, .int .i64 h.m]
theorem hd_len (h : Hd) : h.cells.length = 4 := rfl
theorem hd_one (x : Hd) : ∀ v ∈ x.cells, v.oneCell' = true := by
  intro v hv
  simp only [Hd.cells, List.mem_cons, List.not_mem_nil, or_false] at hv
  rcases hv with rfl | rfl | rfl | rfl <;> rfl
theorem hds_one (l : List Hd) : ∀ v ∈ l.flatMap Hd.cells, v.oneCell' = true := by
  intro v hv
  obtain ⟨x, -, hx⟩ := List.mem_flatMap.1 hv
  exact hd_one x v hx
theorem hds_len (l : List Hd) : (l.flatMap Hd.cells).length = l.length * 4 := flat_len hd_len l

/-- The slice v owns these. -/
def HRow (w : World) (v : Value) (hs : List Hd) : Prop := w.ownsRow 0 175 4 v hs.length (hs.flatMap Hd.cells)
/-- A block that holds just one. -/
structure BoxH (w : World) (n : Nat) (x : Hd) : Prop where
  hb : w.heap[n]? = some (.cells #[.int .i64 x.r.k, .int .i64 x.r.t, .int .i64 x.r.v, .int .i64 x.m] 175 (0, 0))
theorem BoxH.cell {w : World} {n : Nat} {x : Hd} (h : BoxH w n x) (j : Nat) : w.cell? ⟨n, j, none⟩ = x.cells[j]? := by
  simp [World.cell?, h.hb, Hd.cells]
theorem BoxH.lt {w : World} {n : Nat} {x : Hd} (h : BoxH w n x) : n < w.heap.size := (Array.getElem?_eq_some_iff.1 h.hb).1

def insH (hs : List Hd) (i : Nat) (x : Hd) : List Hd := hs.take i ++ x :: hs.drop i
theorem insH_len (hs : List Hd) (i : Nat) (x : Hd) (hi : i ≤ hs.length) : (insH hs i x).length = hs.length + 1 := by simp [insH]; omega
theorem insH_flat (hs : List Hd) (i : Nat) (x : Hd) : (insH hs i x).flatMap Hd.cells = (hs.flatMap Hd.cells).take (i * 4) ++ x.cells ++ (hs.flatMap Hd.cells).drop (i * 4) := by
  unfold insH
  rw [List.flatMap_append, List.flatMap_cons, flat_take hd_len, flat_drop hd_len, List.append_assoc]
theorem insH_get (hs : List Hd) (i : Nat) (x : Hd) (hi : i ≤ hs.length) (j : Nat) : ((insH hs i x).flatMap Hd.cells)[j]? = if j < i * 4 then (hs.flatMap Hd.cells)[j]? else if j < i * 4 + 4 then x.cells[j - i * 4]? else (hs.flatMap Hd.cells)[j - 4]? := by
  have hl := hds_len hs
  have hx : x.cells.length = 4 := rfl
  have h4 : i * 4 ≤ hs.length * 4 := Nat.mul_le_mul_right 4 hi
  have ht : ((hs.flatMap Hd.cells).take (i * 4)).length = i * 4 := by rw [List.length_take, hl]; omega
  rw [insH_flat]
  rcases Nat.lt_or_ge j (i * 4) with h | h
  · rw [if_pos h, List.getElem?_append_left (by rw [List.length_append]; omega), List.getElem?_append_left (by omega), List.getElem?_take_of_lt h]
  · rw [if_neg (by omega)]
    rcases Nat.lt_or_ge j (i * 4 + 4) with h2 | h2
    · rw [if_pos h2, List.getElem?_append_left (by rw [List.length_append]; omega), List.getElem?_append_right (by omega), ht]
    · rw [if_neg (by omega), List.getElem?_append_right (by rw [List.length_append]; omega), List.length_append, ht, hx, List.getElem?_drop]
      congr 1; omega

theorem infoHeld : (Tryz.prog.info? 175).map (fun i => (i.zero, i.size, i.bytes)) = some (some (.agg #[.int .i64 0, .int .i64 0, .int .i64 0, .int .i64 0]), 4, 32) := by kernel_rfl

/-- What an insert leaves. -/
def Inserted (w w' : World) (v : Value) (hs : List Hd) (i : Nat) (x : Hd) (e : Ending) : Prop :=
  ∃ p n cap, e = .returned (.slice p n cap) ∧ ExtM (fun k => v.ownBlock = some k) w w' ∧ HRow w' (.slice p n cap) (insH hs i x) ∧ ((Value.slice p n cap).ownBlock = v.ownBlock ∨ ∃ k, (Value.slice p n cap).ownBlock = some k ∧ w.heap.size ≤ k)

set_option maxRecDepth 100000 in
set_option maxHeartbeats 4000000 in
theorem insertEnd_c (v : Value) (hs : List Hd) (nb : Nat) (x : Hd) (w : World) (h : HRow w v hs) (hb : BoxH w nb x) (hl : hs.length < 1000000) :
    Calls Tryz.prog 115 #[v, .int .i64 (hs.length : Int), .slice (some ⟨nb, 0, none⟩) 1 1] w fun e w' => Inserted w w' v hs hs.length x e := by
  obtain ⟨i0, hi, hz0, hz1, hz2⟩ := info_parts infoHeld
  obtain ⟨v', w', happ, hown', hgr, -, hloc⟩ := run_append_own_at (P := Tryz.prog) w 0 125 125 175 i0 (.agg #[.int .i64 0, .int .i64 0, .int .i64 0, .int .i64 0]) 4 32 Tryz.underlying125 hi hz0 hz1 hz2 rfl (by decide) v hs.length _ h ⟨nb, 0, none⟩ 1 1 x.cells rfl
    (fun j u hj => by
      have e1 : (⟨nb, 0, none⟩ : Addr).add j = ⟨nb, j, none⟩ := by unfold Addr.add; split <;> simp_all
      rw [e1, hb.cell, hj]) (hd_one x) (by unfold maxLen; omega) (by omega) (Nat.zero_le _)
  obtain ⟨p, cap, rfl, hcap⟩ := own_slice h
  obtain ⟨p', cap', rfl, -⟩ := own_slice hown'
  have hP : Inserted w w' (.slice p hs.length cap) hs hs.length x (.returned (.slice p' (hs.length + 1) cap')) := by
    refine ⟨p', hs.length + 1, cap', rfl, ⟨hgr.os, hgr.tape, hgr.output, hgr.size, fun k hk hn => hgr.block k hk (fun e => hn e.symm)⟩, ?_, ?_⟩
    · unfold HRow
      rw [insH_len _ _ _ (Nat.le_refl _), insH_flat, ← hds_len, List.take_length, List.drop_length, List.append_nil]
      exact hown'
    · rcases hloc with h | h
      · exact .inl h
      · exact .inr ⟨_, h, Nat.le_refl _⟩
  clear hown' hgr hloc i0 hi hz0 hz1 hz2
  by_cases hc : cap = hs.length
  · subst hc
    go_enter Tryz.func115, Tryz.ntmps115
    go_wp2_with (at_builtin; refine wpList_append_run happ rfl rfl _ _ rfl rfl rfl ?_; clear happ)
    go_ret
    exact hP
  · go_enter Tryz.func115, Tryz.ntmps115
    go_wp2_with (at_builtin; refine wpList_append_run happ rfl rfl _ _ rfl rfl rfl ?_; clear happ)
    go_ret
    exact hP

theorem min_of {a b m : Nat} (h : (a ≤ b ∧ a = m) ∨ (b ≤ a ∧ b = m)) : Nat.min a b = m := by
  simp only [Nat.min_def]
  split <;> omega
theorem sizeHeld (w : World) : (Go.sizeOf 175).run Tryz.prog w = .ok 4 w := by kernel_rfl

set_option maxRecDepth 100000 in
set_option maxHeartbeats 4000000 in
theorem insertShift_c (g cap : Nat) (f : Nat → Value) (hs : List Hd) (i nb : Nat) (x : Hd) (w : World) (hg : w.rowIs g 175 (cap * 4) f) (hf : ∀ j, j < hs.length * 4 → (hs.flatMap Hd.cells)[j]? = some (f j)) (hi : i < hs.length) (hcap : hs.length + 1 ≤ cap) (hc63 : cap ≤ maxLen) (hb : BoxH w nb x) (hne : nb ≠ g) (hl : hs.length < 1000000) :
    Calls Tryz.prog 115 #[.slice (some ⟨g, 0, none⟩) hs.length cap, .int .i64 (i : Int), .slice (some ⟨nb, 0, none⟩) 1 1] w fun e w' =>
      e = .returned (.slice (some ⟨g, 0, none⟩) (hs.length + 1) cap) ∧ w' = (w.drew.setCells g ((i + 1) * 4) ((hs.flatMap Hd.cells).drop (i * 4))).setCells g (i * 4) x.cells := by
  unfold maxLen at hc63
  have hz2 : ((i : Int) == (hs.length : Int)) = false := by simp; omega
  have hz3 : decide ((cap : Int) < (hs.length : Int) + 1) = false := by simp; omega
  have hov : ∀ lb cb, (callFunc 145 #[.slice (some ⟨nb, 0, none⟩) 1 1, .slice (some ⟨g, (i + 1) * 4, none⟩) lb cb]).run Tryz.prog w = .ok (.value (.bool false)) w := fun lb cb => by
    obtain ⟨c, hc1, hc2, hc3⟩ := hg
    rw [run_callFunc_extern Tryz.func145 (by kernel_rfl) (by kernel_rfl) (by kernel_rfl) (e := Extern.SlicesOverlaps.overlaps #[125, 125] #[4]) (by kernel_rfl),
      Lib.run_overlaps_apart w 125 4 175 Tryz.underlying125 4 sizeHeld ⟨nb, 0, none⟩ ⟨g, (i + 1) * 4, none⟩ 1 1 lb cb hne 175 175 4 (cap * 4)
        (by simp [World.shape?, hb.hb]) (by simp [World.shape?, hc1, hc2]) (by omega) (by simp [World.frozen?, hb.hb]) (by simp [World.frozen?, hb.hb])]
    rfl
  have hsz : (Tryz.prog.info? 175).map (·.size) = some 4 := by
    obtain ⟨i0, hi, hz0, hz1, hz2⟩ := info_parts infoHeld
    rw [hi]; simp [hz1]
  have hdl : ((hs.flatMap Hd.cells).drop (i * 4)).length = (hs.length - i) * 4 := by rw [List.length_drop, hds_len, Nat.sub_mul]
  have hcell : ∀ j, j < cap * 4 → w.cell? ⟨g, j, none⟩ = some (f j) := fun j hj => hg.cell hj
  have hcp1 : ∀ ty dL dC sL sC, Nat.min sL dL = hs.length - i → (Builtin.copy_ #[125, 125] ty #[.slice (some ⟨g, (i + 1) * 4, none⟩) dL dC, .slice (some ⟨g, i * 4, none⟩) sL sC]).run Tryz.prog w.drew = .ok (goInt ((hs.length - i : Nat) : Int)) (w.drew.setCells g ((i + 1) * 4) ((hs.flatMap Hd.cells).drop (i * 4))) := fun ty dL dC sL sC hm =>
    run_copy_k 4 w.drew _ _ ty 175 g ((i + 1) * 4) dL dC ⟨g, i * 4, none⟩ sL sC _ Tryz.underlying125 hsz _ hm.symm hdl
      (fun j v hj => by
        have e1 : (⟨g, i * 4, none⟩ : Addr).add j = ⟨g, i * 4 + j, none⟩ := by unfold Addr.add; split <;> simp_all
        have hj2 : j < (hs.length - i) * 4 := by rw [← hdl]; exact (List.getElem?_eq_some_iff.1 hj).1
        rw [List.getElem?_drop, hf _ (by omega)] at hj
        rw [e1]
        exact (hcell _ (by omega)).trans hj)
      (fun j hj => by rw [hdl] at hj; have := hcell ((i + 1) * 4 + j) (by omega); rw [show w.drew.cell? ⟨g, (i + 1) * 4 + j, none⟩ = _ from this]; rfl) (fun j _ => hg.frozen _) (fun v hv => hds_one hs v (List.mem_of_mem_drop hv))
  obtain ⟨W1, hW1⟩ : ∃ W1, w.drew.setCells g ((i + 1) * 4) ((hs.flatMap Hd.cells).drop (i * 4)) = W1 := ⟨_, rfl⟩
  rw [hW1] at hcp1 ⊢
  have hgW : ∃ f', W1.rowIs g 175 (cap * 4) f' := ⟨_, hW1 ▸ rowIs_setCells _ _ _ _ hg.drew⟩
  have hbW : BoxH W1 nb x := ⟨by rw [← hW1, (ext_setCells' g _ _ w.drew).block nb hb.lt hne]; exact hb.hb⟩
  obtain ⟨f', hgW⟩ := hgW
  have hxm : ExtR (some g) w.drew W1 := by
    rw [← hW1]
    exact (ext_setCells' g _ _ w.drew).mono (fun k _ e => by rw [e])
  have hcp2 : ∀ ty dL dC sL sC, Nat.min sL dL = 1 → (Builtin.copy_ #[125, 125] ty #[.slice (some ⟨g, i * 4, none⟩) dL dC, .slice (some ⟨nb, 0, none⟩) sL sC]).run Tryz.prog W1 = .ok (goInt 1) (W1.setCells g (i * 4) x.cells) := fun ty dL dC sL sC hm =>
    run_copy_k 4 W1 _ _ ty 175 g (i * 4) dL dC ⟨nb, 0, none⟩ sL sC x.cells Tryz.underlying125 hsz _ hm.symm rfl
      (fun j v hj => by
        have e1 : (⟨nb, 0, none⟩ : Addr).add j = ⟨nb, j, none⟩ := by unfold Addr.add; split <;> simp_all
        rw [e1, hbW.cell, hj])
      (fun j hj => by have hj4 : j < 4 := hj; rw [hgW.cell (show i * 4 + j < cap * 4 by omega)]; rfl) (fun j _ => hgW.frozen _) (hd_one x)
  go_enter Tryz.func115, Tryz.ntmps115
  go_wp2_with (simp only [hov])
  refine Plan.begin (Plan.ExtR (some g)) 9 rfl (by kernel_rfl) ?_
  refine Plan.left_q 0 (by rfl) (by kernel_rfl) ?_; go_big_quiet_step (fail); refine wpQuiet_nil ?_
  refine Plan.left_q 1 (by rfl) (by kernel_rfl) ?_; go_big_quiet_step (fail); refine wpQuiet_nil ?_
  refine Plan.left_q 2 (by rfl) (by kernel_rfl) ?_; go_big_quiet_step (fail); refine wpQuiet_nil ?_
  refine Plan.left_q 3 (by rfl) (by kernel_rfl) ?_; go_big_quiet_step (fail); refine wpQuiet_nil ?_
  refine Plan.left_q 4 (by rfl) (by kernel_rfl) ?_; go_big_quiet_step (fail); refine wpQuiet_nil ?_
  refine Plan.left_q 5 (by rfl) (by kernel_rfl) ?_; go_big_quiet_step (fail); refine wpQuiet_nil ?_
  refine Plan.left_q 6 (by rfl) (by kernel_rfl) ?_; go_big_quiet_step (fail); refine wpQuiet_nil ?_
  refine Plan.left_q 7 (by rfl) (by kernel_rfl) ?_; go_big_quiet_step (fail); refine wpQuiet_nil ?_
  refine Plan.left_one 8 (by kernel_rfl) (by rfl) (Plan.plain rfl fun K hK => ?_)
  refine wp_copy_run' _ _ _ _ _ rfl _ _ rfl rfl (hcp1 _ _ _ _ _ (min_of (by omega))) ?_
  refine hK _ _ (hxm) ?_
  clear hK K
  refine Plan.left_done (by kernel_rfl) ?_
  go_wp2
  rw [hcp2 _ _ _ _ _ (min_of (by omega))]
  go_wp2
  go_ret
  exact ⟨rfl, rfl⟩

theorem ins_cells (hs : List Hd) (i : Nat) (x : Hd) (hi : i ≤ hs.length) (F : Nat → Value) (h1 : ∀ j, j < i * 4 → (hs.flatMap Hd.cells)[j]? = some (F j)) (h2 : ∀ c, c < 4 → x.cells[c]? = some (F (i * 4 + c))) (h3 : ∀ j, j < (hs.length - i) * 4 → (hs.flatMap Hd.cells)[i * 4 + j]? = some (F ((i + 1) * 4 + j))) :
    ∀ j, j < (hs.length + 1) * 4 → ((insH hs i x).flatMap Hd.cells)[j]? = some (F j) := by
  intro j hj
  rw [insH_get hs i x hi]
  split
  · rename_i h; exact h1 j h
  · split
    · rename_i h h'
      rw [h2 (j - i * 4) (by omega)]
      congr 2; omega
    · rename_i h h'
      have := h3 (j - 4 - i * 4) (by rw [Nat.sub_mul]; omega)
      rw [show i * 4 + (j - 4 - i * 4) = j - 4 by omega] at this
      rw [this]
      congr 2; omega

theorem zero_size (k : Nat) : (Builtin.zeroCells (Value.agg #[.int .i64 0, .int .i64 0, .int .i64 0, .int .i64 0]).cells k).size = k * 4 := by
  simp [Builtin.zeroCells, Value.cells]

theorem getD_of {xs : List Value} {j : Nat} (h : j < xs.length) : xs[j]? = some (xs[j]?.getD default) := by
  rw [List.getElem?_eq_getElem h]; rfl

set_option maxRecDepth 100000 in
set_option maxHeartbeats 4000000 in
theorem insertGrow_c (g cap : Nat) (f : Nat → Value) (hs : List Hd) (i nb : Nat) (x : Hd) (w : World) (hg : w.rowIs g 175 (cap * 4) f) (hf : ∀ j, j < hs.length * 4 → (hs.flatMap Hd.cells)[j]? = some (f j)) (hi : i < hs.length) (hcl : hs.length ≤ cap) (hcap : cap < hs.length + 1) (hb : BoxH w nb x) (hl : hs.length < 1000000) :
    Calls Tryz.prog 115 #[.slice (some ⟨g, 0, none⟩) hs.length cap, .int .i64 (i : Int), .slice (some ⟨nb, 0, none⟩) 1 1] w fun e w' => Inserted w w' (.slice (some ⟨g, 0, none⟩) hs.length cap) hs i x e := by
  obtain ⟨i0, hi0, hz0, hzs, hzb⟩ := info_parts infoHeld
  have hz2 : ((i : Int) == (hs.length : Int)) = false := by simp; omega
  have hz3 : decide ((cap : Int) < (hs.length : Int) + 1) = true := by simp; omega
  have hsz : (Tryz.prog.info? 175).map (·.size) = some 4 := by rw [hi0]; simp [hzs]
  have hgw : g < w.heap.size := by obtain ⟨c, hc, -⟩ := hg; exact (Array.getElem?_eq_some_iff.1 hc).1
  have hbw := hb.lt
  have hcl' := hds_len hs
  have hkk : (hs.length : Int) + 1 - (i : Int) = ((hs.length + 1 - i : Nat) : Int) := by omega
  have hik : i + (hs.length + 1 - i) = hs.length + 1 := by omega
  have h4 : i * 4 ≤ hs.length * 4 := Nat.mul_le_mul_right 4 (by omega)
  have hcap4 : cap * 4 = hs.length * 4 := by rw [show cap = hs.length by omega]
  have hold : (Builtin.firstCells i0.size i (.slice (some ⟨g, 0, none⟩) i cap)).run Tryz.prog w.drew = .ok ((hs.flatMap Hd.cells).take (i * 4)).toArray w.drew := by
    rw [hzs]
    exact run_firstCells_some w.drew 4 i ⟨g, 0, none⟩ i cap _ (by rw [List.length_take]; omega) (fun j v hj => by
      have e1 : (⟨g, 0, none⟩ : Addr).add j = ⟨g, j, none⟩ := by unfold Addr.add; split <;> simp_all
      rw [e1]
      rw [List.getElem?_take] at hj
      split at hj
      · rw [hf _ (by omega)] at hj
        exact (hg.cell (by omega)).trans hj
      · cases hj)
  obtain ⟨G, hG⟩ : ∃ G, G = grownCap w (hs.length + 1) cap 175 := ⟨_, rfl⟩
  have hGn : hs.length + 1 ≤ G := by rw [hG]; exact grownCap_ge w _ _ _
  have hG63 : G ≤ maxLen := by rw [hG]; exact grownCap_le_maxLen w (hs.length + 1) cap _ (by unfold maxLen; omega)
  obtain ⟨ROW, hROW⟩ : ∃ ROW : Array Value, ROW = ((hs.flatMap Hd.cells).take (i * 4)).toArray ++ Builtin.zeroCells (Value.agg #[.int .i64 0, .int .i64 0, .int .i64 0, .int .i64 0]).cells (hs.length + 1 - i) ++ Builtin.zeroCells (Value.agg #[.int .i64 0, .int .i64 0, .int .i64 0, .int .i64 0]).cells (G - (hs.length + 1)) := ⟨_, rfl⟩
  have hrz : ∀ ty, (Builtin.append_ #[125, 3] ty #[.slice (some ⟨g, 0, none⟩) i cap, .int .i64 ((hs.length : Int) + 1 - (i : Int))]).run Tryz.prog w =
      .ok (.slice (some ⟨w.heap.size, 0, none⟩) (hs.length + 1) G) (w.drew.alloc (.cells ROW 175)) := fun ty => by
    have h := Lib.run_append_grow_zeros w 125 3 ty 175 i0 _ .i64 .i64 Tryz.underlying125 Tryz.underlying3 hi0 hz0 (some ⟨g, 0, none⟩) i cap _ hold (hs.length + 1 - i) (by omega) (by omega) (by omega) (by omega) (by rw [hzb]; omega) (by rw [hzb, hik]; exact growslice_fits hcap (by omega))
    rw [hik] at h
    rw [hkk, hROW, hG]
    exact h
  have hRs : ROW.size = G * 4 := by
    rw [hROW, Array.size_append, Array.size_append, zero_size, zero_size, List.size_toArray, List.length_take, hcl']
    omega
  have hR1 : ∀ j, j < i * 4 → ROW[j]? = (hs.flatMap Hd.cells)[j]? := fun j hj => by
    rw [hROW, Array.append_assoc, Array.getElem?_append_left (by rw [List.size_toArray, List.length_take, hcl']; omega)]
    simp [List.getElem?_take_of_lt hj]
  clear hROW hG hold hzs hzb hz0 hkk
  obtain ⟨W1, hW1⟩ : ∃ W1, W1 = w.drew.alloc (.cells ROW 175) := ⟨_, rfl⟩
  rw [← hW1] at hrz
  have hx1 : Ext w W1 := hW1 ▸ ExtM.alloc (ExtM.drew (ExtM.refl w)) _
  have hr1 : W1.rowIs w.heap.size 175 (G * 4) (fun j => ROW[j]?.getD default) := by
    refine ⟨ROW, ?_, hRs, fun j hj => ?_⟩
    · rw [hW1]; exact heap_alloc_new w.drew _
    · show _ = some (ROW[j]?.getD default)
      rw [Array.getElem?_eq_getElem (by omega)]; rfl
  clear hW1
  have hb1 : BoxH W1 nb x := ⟨by rw [hx1.block nb hbw (fun h => h)]; exact hb.hb⟩
  have hcp2 : ∀ ty dL dC sL sC, Nat.min sL dL = 1 → (Builtin.copy_ #[125, 125] ty #[.slice (some ⟨w.heap.size, i * 4, none⟩) dL dC, .slice (some ⟨nb, 0, none⟩) sL sC]).run Tryz.prog W1 = .ok (goInt 1) (W1.setCells w.heap.size (i * 4) x.cells) := fun ty dL dC sL sC hm =>
    run_copy_k 4 W1 _ _ ty 175 w.heap.size (i * 4) dL dC ⟨nb, 0, none⟩ sL sC x.cells Tryz.underlying125 hsz _ hm.symm rfl
      (fun j v hj => by
        have e1 : (⟨nb, 0, none⟩ : Addr).add j = ⟨nb, j, none⟩ := by unfold Addr.add; split <;> simp_all
        rw [e1, hb1.cell, hj])
      (fun j hj => by have hj4 : j < 4 := hj; rw [hr1.cell (show i * 4 + j < G * 4 by omega)]; rfl) (fun j _ => hr1.frozen _) (hd_one x)
  obtain ⟨W2, hW2⟩ : ∃ W2, W2 = W1.setCells w.heap.size (i * 4) x.cells := ⟨_, rfl⟩
  have hr2 : W2.rowIs w.heap.size 175 (G * 4) _ := hW2 ▸ rowIs_setCells x.cells (i * 4) W1 _ hr1
  have hx2 : ExtM (fun k => k = w.heap.size) W1 W2 := hW2 ▸ ext_setCells' _ _ _ _
  rw [← hW2] at hcp2
  have hg2 : W2.rowIs g 175 (cap * 4) f := by
    obtain ⟨c, hc1, hc2⟩ := hg
    exact ⟨c, by rw [hx2.block g (by have := hx1.size; omega) (by omega), hx1.block g hgw (fun h => h)]; exact hc1, hc2⟩
  clear hW2
  have hdl : ((hs.flatMap Hd.cells).drop (i * 4)).length = (hs.length - i) * 4 := by rw [List.length_drop, hds_len, Nat.sub_mul]
  have hcp3 : ∀ ty dL dC sL sC, Nat.min sL dL = hs.length - i → (Builtin.copy_ #[125, 125] ty #[.slice (some ⟨w.heap.size, (i + 1) * 4, none⟩) dL dC, .slice (some ⟨g, i * 4, none⟩) sL sC]).run Tryz.prog W2.drew = .ok (goInt ((hs.length - i : Nat) : Int)) (W2.drew.setCells w.heap.size ((i + 1) * 4) ((hs.flatMap Hd.cells).drop (i * 4))) := fun ty dL dC sL sC hm =>
    run_copy_k 4 W2.drew _ _ ty 175 w.heap.size ((i + 1) * 4) dL dC ⟨g, i * 4, none⟩ sL sC _ Tryz.underlying125 hsz _ hm.symm hdl
      (fun j v hj => by
        have e1 : (⟨g, i * 4, none⟩ : Addr).add j = ⟨g, i * 4 + j, none⟩ := by unfold Addr.add; split <;> simp_all
        have hj2 : j < (hs.length - i) * 4 := by rw [← hdl]; exact (List.getElem?_eq_some_iff.1 hj).1
        rw [List.getElem?_drop, hf _ (by omega)] at hj
        rw [e1]
        exact (hg2.cell (by omega)).trans hj)
      (fun j hj => by rw [hdl] at hj; have := hr2.cell (i := (i + 1) * 4 + j) (by omega); rw [show W2.drew.cell? ⟨w.heap.size, (i + 1) * 4 + j, none⟩ = _ from this]; rfl) (fun j _ => hr2.frozen _) (fun v hv => hds_one hs v (List.mem_of_mem_drop hv))
  obtain ⟨W3, hW3⟩ : ∃ W3, W3 = W2.drew.setCells w.heap.size ((i + 1) * 4) ((hs.flatMap Hd.cells).drop (i * 4)) := ⟨_, rfl⟩
  have hr3 : W3.rowIs w.heap.size 175 (G * 4) _ := hW3 ▸ rowIs_setCells _ ((i + 1) * 4) W2.drew _ hr2.drew
  have hx3 : ExtM (fun k => k = w.heap.size) W2.drew W3 := hW3 ▸ ext_setCells' _ _ _ _
  rw [← hW3] at hcp3
  clear hW3
  have hxm : ExtR (some w.heap.size) W2.drew W3 := hx3.mono (fun k _ e => by rw [e])
  have hx123 : ExtM (fun k => k = w.heap.size) w W3 := ExtM.trans _ _ _ (ExtM.trans _ _ _ (hx1.mono (fun _ _ h => h.elim)) hx2) (ExtM.trans _ _ _ (ExtM.drew (ExtM.refl _)) hx3)
  have hP : Inserted w W3 (.slice (some ⟨g, 0, none⟩) hs.length cap) hs i x (.returned (.slice (some ⟨w.heap.size, 0, none⟩) (hs.length + 1) G)) := by
    refine ⟨_, _, _, rfl, hx123.mono (fun k hk e => by omega), ?_, .inr ⟨_, rfl, Nat.le_refl _⟩⟩
    unfold HRow
    rw [insH_len _ _ _ (by omega)]
    refine own_of_rowIs hr3 (Nat.zero_le _) hGn hG63 (by rw [hds_len, insH_len _ _ _ (by omega)]) (ins_cells hs i x (by omega) _ ?_ ?_ ?_)
    · intro j hj
      rw [if_neg (by omega), if_neg (by omega), ← hR1 j hj, Array.getElem?_eq_getElem (by omega)]; rfl
    · intro c hc
      rw [if_neg (by omega), if_pos (by have : x.cells.length = 4 := rfl; omega), show i * 4 + c - i * 4 = c by omega]
      exact getD_of hc
    · intro j hj
      rw [if_pos (by omega), show (i + 1) * 4 + j - (i + 1) * 4 = j by omega, ← List.getElem?_drop]
      exact getD_of (by omega)
  clear hx1 hx2 hx3 hx123 hr1 hr2 hr3 hR1 hRs hg hf hg2 hb hb1 hgw hbw
  unfold maxLen at hG63
  go_enter Tryz.func115, Tryz.ntmps115
  go_wp2_with (at_builtin; refine Lib.wpList_append_run _ rfl _ _ _ _ rfl _ _ rfl rfl _ _ (hrz _) ?_)
  go_wp2
  rw [hcp2 _ _ _ _ _ (min_of (by omega))]
  go_wp2
  refine Plan.begin (Plan.ExtR (some w.heap.size)) 9 rfl (by kernel_rfl) ?_
  refine Plan.left_q 0 (by rfl) (by kernel_rfl) ?_; go_big_quiet_step (fail); refine wpQuiet_nil ?_
  refine Plan.left_q 1 (by rfl) (by kernel_rfl) ?_; go_big_quiet_step (fail); refine wpQuiet_nil ?_
  refine Plan.left_q 2 (by rfl) (by kernel_rfl) ?_; go_big_quiet_step (fail); refine wpQuiet_nil ?_
  refine Plan.left_q 3 (by rfl) (by kernel_rfl) ?_; go_big_quiet_step (fail); refine wpQuiet_nil ?_
  refine Plan.left_q 4 (by rfl) (by kernel_rfl) ?_; go_big_quiet_step (fail); refine wpQuiet_nil ?_
  refine Plan.left_q 5 (by rfl) (by kernel_rfl) ?_; go_big_quiet_step (fail); refine wpQuiet_nil ?_
  refine Plan.left_q 6 (by rfl) (by kernel_rfl) ?_; go_big_quiet_step (fail); refine wpQuiet_nil ?_
  refine Plan.left_q 7 (by rfl) (by kernel_rfl) ?_; go_big_quiet_step (fail); refine wpQuiet_nil ?_
  refine Plan.left_one 8 (by kernel_rfl) (by rfl) (Plan.plain rfl fun K hK => ?_)
  refine wp_copy_run' _ _ _ _ _ rfl _ _ rfl rfl (hcp3 _ _ _ _ _ (min_of (by omega))) ?_
  refine hK _ _ (hxm) ?_
  clear hK K
  refine Plan.left_done (by kernel_rfl) ?_
  go_wp2
  go_ret
  exact hP

/-- slices.Insert of one row into rows that the slice owns: whatever room it has. -/
theorem insert_h (v : Value) (hs : List Hd) (i nb : Nat) (x : Hd) (w : World) (h : HRow w v hs) (hb : BoxH w nb x) (hi : i ≤ hs.length) (hne : v.ownBlock ≠ some nb) (hl : hs.length < 1000000) :
    Calls Tryz.prog 115 #[v, .int .i64 (i : Int), .slice (some ⟨nb, 0, none⟩) 1 1] w fun e w' => Inserted w w' v hs i x e := by
  by_cases hin : i = hs.length
  · subst hin
    exact insertEnd_c v hs nb x w h hb hl
  rcases rowIs_of_own h with ⟨rfl, h0⟩ | ⟨g, cap, f, rfl, -, hg, hcl, hc63, hf⟩
  · omega
  have hgn : nb ≠ g := fun e => hne (by rw [e]; rfl)
  by_cases hcap : hs.length + 1 ≤ cap
  · refine (insertShift_c g cap f hs i nb x w hg hf (by omega) hcap hc63 hb hgn hl).mono fun e w' ⟨he, hw⟩ => ?_
    have hdl : ((hs.flatMap Hd.cells).drop (i * 4)).length = (hs.length - i) * 4 := by rw [List.length_drop, hds_len, Nat.sub_mul]
    have hcl' := hds_len hs
    have hr2 := rowIs_setCells ((hs.flatMap Hd.cells).drop (i * 4)) ((i + 1) * 4) w.drew _ hg.drew
    have hr3 := rowIs_setCells x.cells (i * 4) _ _ hr2
    have hx : ExtM (fun k => k = g) w w' := by
      rw [hw]
      exact ExtM.trans _ _ _ (ExtM.trans _ _ _ (ExtM.drew (ExtM.refl _)) (ext_setCells' _ _ _ _)) (ext_setCells' _ _ _ _)
    rw [← hw] at hr3
    refine ⟨_, _, _, he, hx.mono (fun k hk e => by rw [e]; rfl), ?_, .inl rfl⟩
    unfold HRow
    rw [insH_len _ _ _ (by omega)]
    refine own_of_rowIs hr3 (Nat.zero_le _) hcap hc63 (by rw [hds_len, insH_len _ _ _ (by omega)]) (ins_cells hs i x (by omega) _ ?_ ?_ ?_)
    · intro j hj
      rw [if_neg (by omega), if_neg (by omega)]
      exact hf j (by omega)
    · intro c hc
      rw [if_pos (by have : x.cells.length = 4 := rfl; omega), show i * 4 + c - i * 4 = c by omega]
      exact getD_of hc
    · intro j hj
      have : x.cells.length = 4 := rfl
      rw [if_neg (by omega), if_pos (by omega), show (i + 1) * 4 + j - (i + 1) * 4 = j by omega, ← List.getElem?_drop]
      exact getD_of (by omega)
  · exact insertGrow_c g cap f hs i nb x w hg hf (by omega) hcl (by omega) hb hl
end Go.Proofs.YtmcgnnmffeojpaaGreatDoor
