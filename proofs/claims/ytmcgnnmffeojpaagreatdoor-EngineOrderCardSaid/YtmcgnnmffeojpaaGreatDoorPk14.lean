/- Rows of elements of K cells that a call owns: reading, copying, cutting. Rows of elements of K cells: one more behind, one other in its place. Rows of elements of K cells: all of another row behind; what an append leaves, as a law of the walk. -/
import Derived.Test.YtmcgnnmffeojpaaGreatDoorPk3
import Derived.Maps.AppendAt
import Derived.Lib.LazyBuf
import Derived.Laws.IdiomCopy
-- KRow
namespace Go.Plan
open Go.RowKit

section
variable {α : Type} {enc : α → List Value} {K : Nat} {T : TypeId}

theorem flat_len (hK : ∀ x, (enc x).length = K) (l : List α) : (l.flatMap enc).length = l.length * K := by
  induction l with
  | nil => simp
  | cons x r ih => rw [List.flatMap_cons, List.length_append, ih, hK, List.length_cons, Nat.succ_mul]; omega
theorem flat_get (hK : ∀ x, (enc x).length = K) (l : List α) (i c : Nat) (hi : i < l.length) (hc : c < K) : (l.flatMap enc)[i * K + c]? = (enc (l[i]'hi))[c]? := by
  induction l generalizing i with
  | nil => simp at hi
  | cons x r ih =>
    rw [List.flatMap_cons]
    cases i with
    | zero => rw [List.getElem?_append_left (by rw [hK]; omega)]; simp
    | succ i =>
      rw [List.getElem?_append_right (by rw [hK, Nat.succ_mul]; omega), hK]
      have := ih i (by simpa using hi)
      rw [show (i + 1) * K + c - K = i * K + c by rw [Nat.succ_mul]; omega, this]
      simp
theorem flat_take (hK : ∀ x, (enc x).length = K) (l : List α) (i : Nat) : (l.take i).flatMap enc = (l.flatMap enc).take (i * K) := by
  induction l generalizing i with
  | nil => simp
  | cons x r ih =>
    cases i with
    | zero => simp
    | succ i =>
      have e1 : (enc x).take (i * K + K) = enc x := List.take_of_length_le (by rw [hK]; omega)
      have e2 : i * K + K - K = i * K := by omega
      rw [List.take_succ_cons, List.flatMap_cons, List.flatMap_cons, ih, List.take_append, hK, Nat.succ_mul, e1, e2]
theorem flat_drop (hK : ∀ x, (enc x).length = K) (l : List α) (i : Nat) : (l.drop i).flatMap enc = (l.flatMap enc).drop (i * K) := by
  induction l generalizing i with
  | nil => simp
  | cons x r ih =>
    cases i with
    | zero => simp
    | succ i =>
      have e1 : (enc x).drop (i * K + K) = [] := List.drop_of_length_le (by rw [hK]; omega)
      have e2 : i * K + K - K = i * K := by omega
      rw [List.drop_succ_cons, List.flatMap_cons, ih, List.drop_append, hK, Nat.succ_mul, e1, e2, List.nil_append]

/-- A row that is known cell by cell owns what its first cells say. -/
theorem own_of_rowIs {w : World} {g cap n b : Nat} {f : Nat → Value} {xs : List Value} (h : w.rowIs g T (cap * K) f) (hb : b ≤ g) (hn : n ≤ cap) (hc : cap ≤ maxLen) (hl : xs.length = n * K) (hf : ∀ j, j < n * K → xs[j]? = some (f j)) : w.ownsRow b T K (.slice (some ⟨g, 0, none⟩) n cap) n xs := by
  obtain ⟨c, h1, h2, h3⟩ := h
  have hnc : n * K ≤ cap * K := Nat.mul_le_mul_right K hn
  refine ⟨hl, .inr ⟨g, cap, c, rfl, hb, h1, hn, hc, h2, ?_⟩⟩
  apply List.ext_getElem?
  intro j
  rcases Nat.lt_or_ge j (n * K) with hj | hj
  · rw [List.getElem?_take_of_lt hj, Array.getElem?_toList, h3 j (by omega), hf j hj]
  · rw [List.getElem?_eq_none (by rw [List.length_take, Array.length_toList]; omega), List.getElem?_eq_none (by omega)]
theorem rowIs_of_own {w : World} {b n : Nat} {v : Value} {xs : List Value} (h : w.ownsRow b T K v n xs) : (v = .slice none 0 0 ∧ n = 0) ∨ ∃ g cap f, v = .slice (some ⟨g, 0, none⟩) n cap ∧ b ≤ g ∧ w.rowIs g T (cap * K) f ∧ n ≤ cap ∧ cap ≤ maxLen ∧ ∀ j, j < n * K → xs[j]? = some (f j) := by
  obtain ⟨hl, h⟩ := h
  rcases h with h | ⟨g, cap, cur, rfl, e1, e2, e3, e4, e5, e6⟩
  · exact .inl h
  · refine .inr ⟨g, cap, fun j => (cur[j]?).getD default, rfl, e1, ⟨cur, e2, e5, fun j hj => ?_⟩, e3, e4, fun j hj => ?_⟩
    · simp only [Array.getElem?_eq_getElem (show j < cur.size by omega)]; rfl
    · have hnc : n * K ≤ cap * K := Nat.mul_le_mul_right K e3
      rw [← e6, List.getElem?_take_of_lt hj, Array.getElem?_toList]
      simp only [Array.getElem?_eq_getElem (show j < cur.size by omega)]; rfl
theorem own_ext {w w' : World} {b n sz : Nat} {e : TypeId} {v : Value} {xs : List Value} {M : Nat → Prop} (h : w.ownsRow b e sz v n xs) (hx : ExtM M w w') (hM : ∀ k, v.ownBlock = some k → ¬ M k) : w'.ownsRow b e sz v n xs := by
  obtain ⟨h1, h2⟩ := h
  refine ⟨h1, ?_⟩
  rcases h2 with h2 | ⟨g, cap, cur, rfl, e2, e3, e4⟩
  · exact .inl h2
  · exact .inr ⟨g, cap, cur, rfl, e2, (hx.block g (Array.getElem?_eq_some_iff.1 e3).1 (hM g rfl)).trans e3, e4⟩
theorem own_lt {w : World} {b n sz : Nat} {e : TypeId} {v : Value} {xs : List Value} (h : w.ownsRow b e sz v n xs) (k : Nat) (hk : v.ownBlock = some k) : b ≤ k ∧ k < w.heap.size := by
  rcases h.2 with ⟨rfl, -⟩ | ⟨g, cap, cur, rfl, e2, e3, e4⟩
  · cases hk
  · have := Option.some.inj hk
    simp at this
    subst this
    exact ⟨e2, (Array.getElem?_eq_some_iff.1 e3).1⟩
theorem own_weaken {w : World} {b b' n sz : Nat} {e : TypeId} {v : Value} {xs : List Value} (h : w.ownsRow b e sz v n xs) (hb : b' ≤ b) : w.ownsRow b' e sz v n xs := by
  obtain ⟨h1, h2⟩ := h
  refine ⟨h1, ?_⟩
  rcases h2 with h2 | ⟨g, cap, cur, e1, e2, e3⟩
  · exact .inl h2
  · exact .inr ⟨g, cap, cur, e1, by omega, e3⟩
theorem own_slice {w : World} {b n sz : Nat} {e : TypeId} {v : Value} {xs : List Value} (h : w.ownsRow b e sz v n xs) : ∃ p cap, v = .slice p n cap ∧ n ≤ cap := by
  rcases h.2 with ⟨rfl, h0⟩ | ⟨g, cap, cur, rfl, e2, e3, e4, e5⟩
  · exact ⟨none, 0, by rw [h0], by omega⟩
  · exact ⟨_, cap, rfl, e4⟩
/-- The cells of the j-th element. -/
theorem own_cell {w : World} {b : Nat} {v : Value} {xs : List α} (hK : ∀ x, (enc x).length = K) (h : w.ownsRow b T K v xs.length (xs.flatMap enc)) (j c : Nat) (hj : j < xs.length) (hc : c < K) :
    ∃ g cap, v = .slice (some ⟨g, 0, none⟩) xs.length cap ∧ g < w.heap.size ∧ w.cell? ⟨g, j * K + c, none⟩ = (enc (xs[j]'hj))[c]? ∧ w.frozen? ⟨g, j * K + c, none⟩ = false := by
  rcases h.2 with ⟨rfl, h0⟩ | ⟨g, cap, cur, rfl, e2, e3, e4, e5, e6, e7⟩
  · omega
  · refine ⟨g, cap, rfl, (Array.getElem?_eq_some_iff.1 e3).1, ?_, by simp [World.frozen?, e3]⟩
    have e1 := flat_get hK xs j c hj hc
    have hlt : j * K + c < xs.length * K := by
      have : (j + 1) * K ≤ xs.length * K := Nat.mul_le_mul_right K hj
      rw [Nat.succ_mul] at this; omega
    rw [← e7, List.getElem?_take_of_lt hlt, Array.getElem?_toList] at e1
    simpa [World.cell?, e3] using e1
end

section
variable {P : Program}
/-- 'copy(d, s)' at elements of k cells: all is read before anything is written. -/
theorem run_copy_k (k : Nat) (w : World) (dT sT ty elem : TypeId) (b o dLen dCap : Nat) (a : Addr) (sLen sCap : Nat) (cs : List Value)
    (hu : P.underlying dT = some (.slice elem)) (hs : (P.info? elem).map (·.size) = some k) (m : Nat) (hm : m = Nat.min sLen dLen) (hn : cs.length = m * k)
    (hsrc : ∀ j v, cs[j]? = some v → w.cell? (a.add j) = some v) (hc : ∀ j, j < cs.length → (w.cell? ⟨b, o + j, none⟩).isSome = true) (hf : ∀ j, j < cs.length → w.frozen? ⟨b, o + j, none⟩ = false) (h1 : ∀ v ∈ cs, v.oneCell' = true) :
    (Builtin.copy_ #[dT, sT] ty #[.slice (some ⟨b, o, none⟩) dLen dCap, .slice (some a) sLen sCap]).run P w = .ok (goInt m) (w.setCells b o cs) := by
  have hl := run_loadCells_list (P := P) w a cs hsrc
  have hst := run_storeCells_cells (P := P) b o cs 0 w (by simpa using hc) (by simpa using hf) h1
  cases hq : P.info? elem with
  | none => simp [hq] at hs
  | some i =>
    have hi : i.size = k := by simpa [hq] using hs
    rw [hn] at hl
    simp [Builtin.copy_, run_underlying hu, Builtin.lenOf, Builtin.firstCells, sizeOf, typeInfo, hq, hi, ← hm, hl, hst]
theorem isSome_setCells' (b : Nat) (vs : List Value) (o : Nat) (w : World) (h : ∀ j, j < vs.length → (w.cell? ⟨b, o + j, none⟩).isSome = true) (k : Nat) (hk : (w.cell? ⟨b, k, none⟩).isSome = true) : ((w.setCells b o vs).cell? ⟨b, k, none⟩).isSome = true := by
  by_cases hin : o ≤ k ∧ k < o + vs.length
  · have := World.cell?_setCells_in b vs o w h (k - o) (by omega)
    rw [show o + (k - o) = k by omega] at this
    rw [this]; rfl
  · rw [World.cell?_setCells_out b vs o w ⟨b, k, none⟩ (fun _ _ => by show k < o ∨ o + vs.length ≤ k; omega)]
    exact hk
theorem ext_setCells' (g : Nat) : ∀ (vs : List Value) (o : Nat) (w : World), ExtM (fun k => k = g) w (w.setCells g o vs)
  | [], _, w => ExtM.refl w
  | v :: r, o, w => ExtM.trans _ _ _ (ExtM.setCell (M := fun k => k = g) (ExtM.refl w) (p := ⟨g, o, none⟩) (.inr rfl) v) (ext_setCells' g r (o + 1) _)
theorem wpList_copy_run' (w : World) {ops : Array Oper} {rest : List Oper} {o : Oper} {a : Act} {Q : Exit → Act → World → Prop} (hgd : o.guard = none) (d s : Operand) (t t' : TypeId)
    (ho : o.op = .call { callee := .builtin .copy, args := #[d, s], argTypes := #[t, t'] }) (v u : Value) (hd : a.eval d = v) (hs : a.eval s = u) {v' : Value} {w' : World}
    (hr : (Builtin.copy_ #[t, t'] o.type #[v, u]).run P w = .ok v' w') (h : wpList P ops Q rest (a.put o.dst v') w') : wpList P ops Q (o :: rest) a w := by
  refine wpList_plain hgd fun K hK => ?_
  unfold Oper.wp execOp
  simp only [ho, resolve, invoke, builtin, Sem.run_bind, Sem.run_pure, Result.andThen_ok, List.map_toArray, List.map_cons, List.map_nil, hd, hs, hr]
  exact hK _ _ h
theorem wp_copy_run' (w : World) {o : Oper} {a : Act} {K : Act → World → Prop} {Q : Exit → Act → World → Prop} (d s : Operand) (t t' : TypeId)
    (ho : o.op = .call { callee := .builtin .copy, args := #[d, s], argTypes := #[t, t'] }) (v u : Value) (hd : a.eval d = v) (hs : a.eval s = u) {v' : Value} {w' : World}
    (hr : (Builtin.copy_ #[t, t'] o.type #[v, u]).run P w = .ok v' w') (h : K (a.put o.dst v') w') : o.wp P a w K Q := by
  unfold Oper.wp execOp
  simp only [ho, resolve, invoke, builtin, Sem.run_bind, Sem.run_pure, Result.andThen_ok, List.map_toArray, List.map_cons, List.map_nil, hd, hs, hr]
  exact h
theorem wpList_append_run {w w' : World} {ops : Array Oper} {rest : List Oper} {o : Oper} {a : Act} {Q : Exit → Act → World → Prop} {t ty : TypeId} {v x v' : Value} (hr : (Builtin.append_ #[t, t] ty #[v, x]).run P w = .ok v' w') (hgd : o.guard = none) (hty : o.type = ty) (so xo : Operand)
    (ho : o.op = .call { callee := .builtin .append, args := #[so, xo], argTypes := #[t, t] }) (hs : a.eval so = v) (hx : a.eval xo = x) (h : wpList P ops Q rest (a.put o.dst v') w') : wpList P ops Q (o :: rest) a w := by
  refine wpList_plain hgd fun K hK' => ?_
  subst hty
  unfold Oper.wp execOp
  simp only [ho, resolve, invoke, builtin, Sem.run_bind, Sem.run_pure, Result.andThen_ok, List.map_toArray, List.map_cons, List.map_nil, hs, hx, hr]
  exact hK' _ _ h
theorem wp_append_run {w w' : World} {o : Oper} {a : Act} {K : Act → World → Prop} {Q : Exit → Act → World → Prop} {t ty : TypeId} {v x v' : Value} (hr : (Builtin.append_ #[t, t] ty #[v, x]).run P w = .ok v' w') (hty : o.type = ty) (so xo : Operand)
    (ho : o.op = .call { callee := .builtin .append, args := #[so, xo], argTypes := #[t, t] }) (hs : a.eval so = v) (hx : a.eval xo = x) (h : K (a.put o.dst v') w') : o.wp P a w K Q := by
  subst hty
  unfold Oper.wp execOp
  simp only [ho, resolve, invoke, builtin, Sem.run_bind, Sem.run_pure, Result.andThen_ok, List.map_toArray, List.map_cons, List.map_nil, hs, hx, hr]
  exact h
end
end Go.Plan

-- KRow2
namespace Go.Plan
open Go.RowKit

section
variable {P : Program} {α : Type} {enc : α → List Value} {K : Nat} {T : TypeId}

/-- 'append(v, x)' of one element. -/
theorem run_appendK (hK : ∀ x, (enc x).length = K) (h1 : ∀ x, ∀ u ∈ enc x, u.oneCell' = true) (ts : TypeId) (z : Value) (bytes : Nat) (hinfo : (P.info? T).map (fun i => (i.zero, i.size, i.bytes)) = some (some z, K, bytes)) (hz : z.cells.size = K) (hK0 : 0 < K) (hu : P.underlying ts = some (.slice T)) (hby : bytes ≤ 1000)
    (W : World) (base nb c : Nat) (v : Value) (acc : List α) (x : α) (ty : TypeId) (hown : W.ownsRow base T K v acc.length (acc.flatMap enc)) (hx : ∀ j u, (enc x)[j]? = some u → W.cell? ⟨nb, j, none⟩ = some u) (hl : acc.length < 1000000) (hb : base ≤ W.heap.size) :
    ∃ v' w', (Builtin.append_ #[ts, ts] ty #[v, .slice (some ⟨nb, 0, none⟩) 1 c]).run P W = .ok v' w' ∧ w'.ownsRow base T K v' (acc ++ [x]).length ((acc ++ [x]).flatMap enc) ∧ ExtM (fun k => v.ownBlock = some k) W w' ∧ (v'.ownBlock = v.ownBlock ∨ ∃ k, v'.ownBlock = some k ∧ W.heap.size ≤ k) := by
  obtain ⟨i0, hi, hz0, hz1, hz2⟩ := info_parts hinfo
  obtain ⟨v', w', h1', h2, h3, -, h5⟩ := run_append_own_at (P := P) W base ts ty T i0 z K bytes hu hi hz0 hz1 hz2 hz hK0 v acc.length _ hown ⟨nb, 0, none⟩ 1 c (enc x) (by rw [hK, Nat.one_mul])
    (fun j u hj => by
      have e1 : (⟨nb, 0, none⟩ : Addr).add j = ⟨nb, j, none⟩ := by unfold Addr.add; split <;> simp_all
      rw [e1]; exact hx j u hj) (h1 x) (by unfold maxLen; omega) (by
        have h9 : (acc.length + 1) * bytes ≤ (acc.length + 1) * 1000 := Nat.mul_le_mul_left _ hby
        omega) hb
  refine ⟨v', w', h1', ?_, ⟨h3.os, h3.tape, h3.output, h3.size, fun k hk hn => h3.block k hk (fun e => hn e.symm)⟩, ?_⟩
  · rw [List.flatMap_append, List.length_append]
    simpa using h2
  · rcases h5 with h | h
    · exact .inl h
    · exact .inr ⟨_, h, Nat.le_refl _⟩

theorem flat_set (hK : ∀ x, (enc x).length = K) (l : List α) (i c : Nat) (hi : i < l.length) (hc : c < K) (u : Value) (x' : α) (hx : enc x' = (enc (l[i]'hi)).set c u) : (l.set i x').flatMap enc = (l.flatMap enc).set (i * K + c) u := by
  induction l generalizing i with
  | nil => simp at hi
  | cons x r ih =>
    cases i with
    | zero =>
      rw [List.set_cons_zero, List.flatMap_cons, List.flatMap_cons, List.set_append_left _ _ (by rw [hK]; omega), hx]
      simp
    | succ i =>
      rw [List.set_cons_succ, List.flatMap_cons, List.flatMap_cons, List.set_append_right _ _ (by rw [hK, Nat.succ_mul]; omega), hK, ih i (by simpa using hi) (by simpa using hx)]
      congr 2
      rw [Nat.succ_mul]; omega

/-- One cell of one element is another one. -/
theorem own_setCell (hK : ∀ x, (enc x).length = K) {w : World} {b g cap : Nat} {xs : List α} (h : w.ownsRow b T K (.slice (some ⟨g, 0, none⟩) xs.length cap) xs.length (xs.flatMap enc)) (i c : Nat) (hi : i < xs.length) (hc : c < K) (u : Value) (x' : α) (hx : enc x' = (enc (xs[i]'hi)).set c u) :
    (w.setCell ⟨g, i * K + c, none⟩ u).ownsRow b T K (.slice (some ⟨g, 0, none⟩) xs.length cap) (xs.set i x').length ((xs.set i x').flatMap enc) := by
  obtain ⟨hl, h⟩ := h
  rcases h with ⟨h0, -⟩ | ⟨g', cap', cur, he, e1, e2, e3, e4, e5, e6⟩
  · cases h0
  injection he with he1 he2 he3
  injection he1 with he1
  injection he1 with he1
  subst he1
  subst he3
  rw [flat_set hK xs i c hi hc u x' hx, List.length_set]
  refine ⟨by rw [List.length_set, hl], .inr ⟨g, cap, cur.setIfInBounds (i * K + c) u, rfl, e1, ?_, e3, e4, by rw [Array.size_setIfInBounds, e5], ?_⟩⟩
  · simp [World.setCell, Array.getElem?_modify, e2]
  · rw [Array.toList_setIfInBounds, ← e6, List.take_set]
end
end Go.Plan

-- KRow3
namespace Go.Plan
open Go.RowKit

section
variable {P : Program} {α : Type} {enc : α → List Value} {K : Nat} {T : TypeId}

/-- 'append(v, s...)' of a whole row. -/
theorem run_appendAllK (hK : ∀ x, (enc x).length = K) (h1 : ∀ x, ∀ u ∈ enc x, u.oneCell' = true) (ts : TypeId) (z : Value) (bytes : Nat) (hinfo : (P.info? T).map (fun i => (i.zero, i.size, i.bytes)) = some (some z, K, bytes)) (hz : z.cells.size = K) (hK0 : 0 < K) (hu : P.underlying ts = some (.slice T)) (hby : bytes ≤ 1000)
    (W : World) (base bs : Nat) (v s : Value) (acc xs : List α) (ty : TypeId) (hown : W.ownsRow base T K v acc.length (acc.flatMap enc)) (hs : W.ownsRow bs T K s xs.length (xs.flatMap enc)) (hl : acc.length + xs.length < 1000000) (hb : base ≤ W.heap.size) :
    ∃ v' w', (Builtin.append_ #[ts, ts] ty #[v, s]).run P W = .ok v' w' ∧ w'.ownsRow base T K v' (acc ++ xs).length ((acc ++ xs).flatMap enc) ∧ ExtM (fun k => v.ownBlock = some k) W w' ∧ (v'.ownBlock = v.ownBlock ∨ ∃ k, v'.ownBlock = some k ∧ W.heap.size ≤ k) := by
  obtain ⟨i0, hi, hz0, hz1, hz2⟩ := info_parts hinfo
  rcases rowIs_of_own hs with ⟨rfl, h0⟩ | ⟨g, cap, f, rfl, -, hg, hn, hc63, hf⟩
  · obtain rfl := List.eq_nil_of_length_eq_zero h0
    obtain ⟨p, c, rfl, hpc⟩ := own_slice hown
    refine ⟨.slice p acc.length c, W, ?_, by simpa using hown, ExtM.refl _, .inl rfl⟩
    cases p with
    | none => simp [Builtin.append_, run_underlying hu, Builtin.lenOf, Builtin.firstCells, sizeOf, typeInfo, hi, hpc]
    | some a => simp [Builtin.append_, run_underlying hu, Builtin.lenOf, Builtin.firstCells, sizeOf, typeInfo, hi, hpc, storeCells]
  · obtain ⟨v', w', h1', h2, h3, -, h5⟩ := run_append_own_at (P := P) W base ts ty T i0 z K bytes hu hi hz0 hz1 hz2 hz hK0 v acc.length _ hown ⟨g, 0, none⟩ xs.length cap (xs.flatMap enc) (flat_len hK xs)
      (fun j u hj => by
        have e1 : (⟨g, 0, none⟩ : Addr).add j = ⟨g, j, none⟩ := by unfold Addr.add; split <;> simp_all
        have hj2 : j < xs.length * K := by rw [← flat_len hK xs]; exact (List.getElem?_eq_some_iff.1 hj).1
        have hle : xs.length * K ≤ cap * K := Nat.mul_le_mul_right K hn
        rw [e1, hg.cell (by omega), ← hf j hj2, hj])
      (fun u hu => by obtain ⟨x, -, hx⟩ := List.mem_flatMap.1 hu; exact h1 x u hx) (by unfold maxLen; omega) (by
        have h9 : (acc.length + xs.length) * bytes ≤ (acc.length + xs.length) * 1000 := Nat.mul_le_mul_left _ hby
        omega) hb
    refine ⟨v', w', h1', ?_, ⟨h3.os, h3.tape, h3.output, h3.size, fun k hk hn => h3.block k hk (fun e => hn e.symm)⟩, ?_⟩
    · rw [List.flatMap_append, List.length_append]
      exact h2
    · rcases h5 with h | h
      · exact .inl h
      · exact .inr ⟨_, h, Nat.le_refl _⟩

/-- An append, by what it leaves. -/
theorem wp_append_law {w : World} {o : Oper} {a : Act} {K : Act → World → Prop} {Q : Exit → Act → World → Prop} {t : TypeId} {v x : Value} {R : Value → World → Prop} (hr : ∃ v' w', (Builtin.append_ #[t, t] o.type #[v, x]).run P w = .ok v' w' ∧ R v' w') (so xo : Operand)
    (ho : o.op = .call { callee := .builtin .append, args := #[so, xo], argTypes := #[t, t] }) (hs : a.eval so = v) (hx : a.eval xo = x) (h : ∀ v' w', R v' w' → K (a.put o.dst v') w') : o.wp P a w K Q := by
  obtain ⟨v', w', hr, hR⟩ := hr
  exact wp_append_run hr rfl so xo ho hs hx (h v' w' hR)
end
end Go.Plan
