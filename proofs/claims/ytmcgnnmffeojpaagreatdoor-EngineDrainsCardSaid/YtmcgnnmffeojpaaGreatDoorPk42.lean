/- Two tales and the steps that are left: what holds between the rounds. -/
import Derived.Test.YtmcgnnmffeojpaaGreatDoorPk29
import Derived.Test.YtmcgnnmffeojpaaGreatDoorPk30
import Derived.Test.YtmcgnnmffeojpaaGreatDoorPk31
/- Rows that come in whichever order come to the same, plainly. No program in sight. -/
namespace Go.Proofs.YtmcgnnmffeojpaaGreatDoor
open Go.RowKit Go.Plan

/-- One of a tale's steps. -/
structure StE where
  what : Int
  side : Int
  n : Int
  key : Int
  time : Int
  value : Int
def StE.row (x : StE) : Row := stepRow x.key x.time x.value
def StE.sd (x : StE) : Nat := pickN x.side 2
def StE.feed (x : StE) : StE := { x with what := 0 }
theorem StE.sd_two (x : StE) : x.sd = 0 ∨ x.sd = 1 := by have := pickN_lt x.side 2 (by decide); unfold StE.sd; omega
def feedX (lo hi md : Int) (s : TSt) (x : StE) : TSt := feedT lo hi md x.sd x.row s
def stepsT (lo hi md : Int) (l : List StE) (s : TSt) : TSt := l.foldl (feedX lo hi md) s
theorem feedX_ok {lo hi md : Int} {s : TSt} {n : Nat} (h : TOk lo hi md s n) (hn : n < 300) (x : StE) : TOk lo hi md (feedX lo hi md s x) (n + 1) := by
  unfold feedX
  rcases x.sd_two with e | e
  · rw [e]; exact (h.feed0 hn x.row (stepRow_small _ _ _)).1
  · rw [e]; exact (h.feed1 hn x.row (stepRow_small _ _ _)).1
theorem steps_ok {lo hi md : Int} : ∀ (l : List StE) {s : TSt} {n : Nat}, TOk lo hi md s n → n + l.length ≤ 300 → TOk lo hi md (stepsT lo hi md l s) (n + l.length)
  | [], s, n, h, _ => h
  | x :: l, s, n, h, hl => by
    simp only [List.length_cons] at hl ⊢
    have := steps_ok l (feedX_ok h (by omega) x) (by omega)
    rw [show n + (l.length + 1) = n + 1 + l.length by omega]
    exact this
theorem steps_snoc {lo hi md : Int} (l : List StE) (x : StE) (s : TSt) : stepsT lo hi md (l ++ [x]) s = feedX lo hi md (stepsT lo hi md l s) x := by
  unfold stepsT
  rw [List.foldl_append]; rfl
/-- No mark has moved. -/
def Unmoved (s : TSt) : Prop := s.st.x = -1099511627777 ∧ s.st.y = -1099511627777
theorem feedE_zero {lo hi : Int} {s : Nat} {r : Row} (h : smallR r) {x y : Int} (hx : x = -1099511627777) (hy : y = -1099511627777) {n : Nat} (hn : n < 300) : feedE lo hi s r x y n = 0 := by
  subst hx; subst hy
  have ht := h.2.1.1
  unfold feedE
  rw [if_neg (by rw [h.good]; decide), if_neg (by split <;> omega), if_neg (fun e => by have := e.2; omega)]
theorem feedJ_marks (lo hi : Int) (s : Nat) (r : Row) (st : JSt) (hs : s = 0 ∨ s = 1) : (feedJ lo hi s r st).x = st.x ∧ (feedJ lo hi s r st).y = st.y := by
  unfold feedJ
  simp only
  rcases hs with rfl | rfl
  · split
    · exact ⟨rfl, rfl⟩
    · split
      · split <;> exact ⟨rfl, rfl⟩
      · exact ⟨rfl, rfl⟩
  · split
    · exact ⟨rfl, rfl⟩
    · split
      · split <;> exact ⟨rfl, rfl⟩
      · exact ⟨rfl, rfl⟩
theorem feedX_rows {lo hi md : Int} {s : TSt} {n : Nat} (h : TOk lo hi md s n) (hn : n < 300) (hu : Unmoved s) (x : StE) :
    Unmoved (feedX lo hi md s x) ∧ (feedX lo hi md s x).L = (if x.sd = 0 then x.row :: s.L else s.L) ∧ (feedX lo hi md s x).R = (if x.sd = 0 then s.R else x.row :: s.R) := by
  have hla := h.la
  have hlb := h.lb
  have hm := feedJ_marks lo hi x.sd x.row s.st x.sd_two
  have hE : feedE lo hi x.sd x.row s.st.x s.st.y (s.st.of x.sd).length = 0 := feedE_zero (stepRow_small _ _ _) hu.1 hu.2 (by unfold JSt.of; split <;> omega)
  refine ⟨⟨hm.1.trans hu.1, hm.2.trans hu.2⟩, ?_, ?_⟩
  · unfold feedX feedT
    simp only [hE]
    by_cases e : x.sd = 0
    · rw [if_pos ⟨trivial, e⟩, if_pos e]
    · rw [if_neg (fun q => e q.2), if_neg e]
  · unfold feedX feedT
    simp only [hE]
    rcases x.sd_two with e | e
    · rw [if_neg (fun q => by have := q.2; omega), if_pos e]
    · rw [if_pos ⟨trivial, e⟩, if_neg (by omega)]
def rowsOf (q : Bool) (l : List StE) : List Row := (l.filter fun x => decide (x.sd = 0) == q).map StE.row
theorem steps_rows {lo hi md : Int} : ∀ (l : List StE) {s : TSt} {n : Nat}, TOk lo hi md s n → n + l.length ≤ 300 → Unmoved s →
    Unmoved (stepsT lo hi md l s) ∧ (stepsT lo hi md l s).L = (rowsOf true l).reverse ++ s.L ∧ (stepsT lo hi md l s).R = (rowsOf false l).reverse ++ s.R
  | [], s, n, h, _, hu => ⟨hu, rfl, rfl⟩
  | x :: l, s, n, h, hl, hu => by
    simp only [List.length_cons] at hl
    obtain ⟨h1, h2, h3⟩ := feedX_rows h (by omega) hu x
    obtain ⟨k1, k2, k3⟩ := steps_rows l (feedX_ok h (by omega) x) (by omega) h1
    refine ⟨k1, k2.trans ?_, k3.trans ?_⟩
    · rw [h2]
      unfold rowsOf
      by_cases e : x.sd = 0
      · rw [if_pos e, List.filter_cons_of_pos (by simp [e])]; simp
      · rw [if_neg e, List.filter_cons_of_neg (by simp [e])]
    · rw [h3]
      unfold rowsOf
      by_cases e : x.sd = 0
      · rw [if_pos e, List.filter_cons_of_neg (by simp [e])]
      · rw [if_neg e, List.filter_cons_of_pos (by simp [e])]; simp
theorem unmoved_new : Unmoved TSt.new := ⟨rfl, rfl⟩
/-- HOW THEY CAME IS NOT SEEN. -/
theorem steps_perm {lo hi md : Int} {l l' : List StE} (hp : l.Perm l') (hl : l.length ≤ 300) : (stepsT lo hi md l TSt.new).V.Perm (stepsT lo hi md l' TSt.new).V := by
  have hl' : l'.length ≤ 300 := by rw [← hp.length_eq]; exact hl
  have o1 := steps_ok l (TOk.new lo hi md) (by omega)
  have o2 := steps_ok l' (TOk.new lo hi md) (by omega)
  obtain ⟨-, a1, b1⟩ := steps_rows l (TOk.new lo hi md) (by omega) unmoved_new
  obtain ⟨-, a2, b2⟩ := steps_rows l' (TOk.new lo hi md) (by omega) unmoved_new
  refine o1.inv.v.trans (List.Perm.trans ?_ o2.inv.v.symm)
  rw [a1, b1, a2, b2]
  have hr : ∀ q, (rowsOf q l).Perm (rowsOf q l') := fun q => (hp.filter _).map _
  refine should_perm ?_ ?_
  · exact ((List.reverse_perm _).trans ((hr true).trans (List.reverse_perm _).symm)).append_right _
  · exact ((List.reverse_perm _).trans ((hr false).trans (List.reverse_perm _).symm)).append_right _
end Go.Proofs.YtmcgnnmffeojpaaGreatDoor
namespace Go.Proofs.YtmcgnnmffeojpaaGreatDoor
open Go.RowKit Go.Plan

def StE.cells (x : StE) : List Value := [.int .i64 x.what, .int .i64 x.side, .int .i64 x.n, .int .i64 x.key, .int .i64 x.time, .int .i64 x.value]
def StE.ok (x : StE) : Prop := I64 x.side ∧ I64 x.key ∧ I64 x.time ∧ I64 x.value
def StE.agg (x : StE) : Value := .agg #[.int .i64 x.what, .int .i64 x.side, .int .i64 x.n, .int .i64 x.key, .int .i64 x.time, .int .i64 x.value]
theorem ste_len (x : StE) : x.cells.length = 6 := rfl
theorem ste_one (x : StE) : ∀ v ∈ x.cells, v.oneCell' = true := by
  intro v hv
  simp only [StE.cells, List.mem_cons, List.not_mem_nil, or_false] at hv
  rcases hv with rfl | rfl | rfl | rfl | rfl | rfl <;> rfl
structure ElemE (w : World) (b o : Nat) (d : StE) : Prop where
  c0 : w.cell? ⟨b, o, none⟩ = some (.int .i64 d.what)
  c1 : w.cell? ⟨b, o + 1, none⟩ = some (.int .i64 d.side)
  c2 : w.cell? ⟨b, o + 2, none⟩ = some (.int .i64 d.n)
  c3 : w.cell? ⟨b, o + 3, none⟩ = some (.int .i64 d.key)
  c4 : w.cell? ⟨b, o + 4, none⟩ = some (.int .i64 d.time)
  c5 : w.cell? ⟨b, o + 5, none⟩ = some (.int .i64 d.value)
theorem ElemE.lt {w : World} {b o : Nat} {d : StE} (h : ElemE w b o d) : b < w.heap.size := lt_of_cell h.c0
theorem ElemE.keep {w w' : World} {M : Nat → Prop} {b o : Nat} {d : StE} (h : ElemE w b o d) (hx : ExtM M w w') (hb : ¬ M b) : ElemE w' b o d := by
  have k := fun q => hx.cell (p := ⟨b, q, none⟩) h.lt hb
  exact ⟨(k _).trans h.c0, (k _).trans h.c1, (k _).trans h.c2, (k _).trans h.c3, (k _).trans h.c4, (k _).trans h.c5⟩
theorem ElemE.of {w w' : World} {b o : Nat} {d : StE} (h : ElemE w b o d) (hx : Ext w w') : ElemE w' b o d := h.keep hx (fun h => h)
theorem ElemE.at {w : World} {b o : Nat} {d : StE} (h : ElemE w b o d) : ∀ c u, d.cells[c]? = some u → w.cell? ⟨b, o + c, none⟩ = some u := by
  intro c u hu
  have hc : c < 6 := (List.getElem?_eq_some_iff.1 hu).1
  match c, hc with
  | 0, _ => simp [StE.cells] at hu; subst hu; exact h.c0
  | 1, _ => simp [StE.cells] at hu; subst hu; exact h.c1
  | 2, _ => simp [StE.cells] at hu; subst hu; exact h.c2
  | 3, _ => simp [StE.cells] at hu; subst hu; exact h.c3
  | 4, _ => simp [StE.cells] at hu; subst hu; exact h.c4
  | 5, _ => simp [StE.cells] at hu; subst hu; exact h.c5
def StepsIn (w : World) (a : Option Addr) (xs : List StE) : Prop := xs = [] ∨ ∃ b off, a = some ⟨b, off, none⟩ ∧ ∀ i (h : i < xs.length), ElemE w b (off + i * 6) xs[i]
/-- The cells of some in a row. -/
theorem flat_cells {w : World} {b off : Nat} : ∀ (xs : List StE) (k : Nat), (∀ i (h : i < xs.length), ElemE w b (off + (k + i) * 6) xs[i]) → ∀ j u, (xs.flatMap StE.cells)[j]? = some u → w.cell? ⟨b, off + k * 6 + j, none⟩ = some u
  | [], _, _, j, u, hj => by simp at hj
  | x :: xs, k, h, j, u, hj => by
    rw [List.flatMap_cons] at hj
    by_cases h6 : j < 6
    · rw [List.getElem?_append_left (by rw [ste_len]; exact h6)] at hj
      have := (h 0 (by simp)).at j u hj
      simpa using this
    · rw [List.getElem?_append_right (by rw [ste_len]; omega), ste_len] at hj
      have := flat_cells xs (k + 1) (fun i hi => by
        have := h (i + 1) (by simpa using hi)
        rw [show k + (i + 1) = k + 1 + i by omega] at this
        simpa using this) (j - 6) u hj
      rw [show off + (k + 1) * 6 + (j - 6) = off + k * 6 + j by rw [Nat.succ_mul]; omega] at this
      exact this
/-- The slice v owns these steps. -/
def LRow (w : World) (base : Nat) (v : Value) (l : List StE) : Prop := w.ownsRow base 28 6 v l.length (l.flatMap StE.cells)
theorem infoStE : (Tryz.prog.info? 28).map (fun i => (i.zero, i.size, i.bytes)) = some (some (.agg #[.int .i64 0, .int .i64 0, .int .i64 0, .int .i64 0, .int .i64 0, .int .i64 0]), 6, 48) := by kernel_rfl
theorem LRow.elem {w : World} {b : Nat} {v : Value} {l : List StE} (h : LRow w b v l) (i : Nat) (hi : i < l.length) : ∃ g cap, v = .slice (some ⟨g, 0, none⟩) l.length cap ∧ b ≤ g ∧ ElemE w g (i * 6) l[i] ∧ ∀ q, w.frozen? ⟨g, q, none⟩ = false := by
  obtain ⟨g, cap, rfl, hg, h0, -⟩ := own_cell (enc := StE.cells) ste_len h i 0 hi (by omega)
  have hk : ∀ c, c < 6 → w.cell? ⟨g, i * 6 + c, none⟩ = (l[i].cells)[c]? := fun c hc => by
    obtain ⟨g', cap', e1, -, e2, -⟩ := own_cell (enc := StE.cells) ste_len h i c hi hc
    simp only [Value.slice.injEq, Option.some.injEq, Addr.mk.injEq, and_true, true_and] at e1
    rw [e1.1]; exact e2
  refine ⟨g, cap, rfl, (own_lt h g rfl).1, ⟨hk 0 (by omega), hk 1 (by omega), hk 2 (by omega), hk 3 (by omega), hk 4 (by omega), hk 5 (by omega)⟩, fun q => ?_⟩
  rcases h.2 with ⟨e, -⟩ | ⟨g', cap', cur, e, -, hh, -⟩
  · cases e
  · simp only [Value.slice.injEq, Option.some.injEq, Addr.mk.injEq, and_true, true_and] at e
    obtain ⟨rfl, -⟩ := e
    simp [World.frozen?, hh]
/-- 'append(v, xs..)', wherever those lie. -/
theorem run_appendSt (W : World) (base : Nat) (v : Value) (acc xs : List StE) (sa : Option Addr) (cap : Nat) (ty : TypeId) (hown : LRow W base v acc)
    (hs : xs = [] ∨ ∃ b off, sa = some ⟨b, off, none⟩ ∧ ∀ j u, (xs.flatMap StE.cells)[j]? = some u → W.cell? ⟨b, off + j, none⟩ = some u) (hl : acc.length + xs.length < 1000000) (hb : base ≤ W.heap.size) :
    ∃ v' w', (Builtin.append_ #[22, 22] ty #[v, .slice sa xs.length cap]).run Tryz.prog W = .ok v' w' ∧ LRow w' base v' (acc ++ xs) ∧ ExtR v.ownBlock W w' ∧ (v'.ownBlock = v.ownBlock ∨ ∃ k, v'.ownBlock = some k ∧ W.heap.size ≤ k) := by
  obtain ⟨i0, hi, hz0, hz1, hz2⟩ := info_parts infoStE
  have go : ∀ a : Addr, sa = some a → (∀ j u, (xs.flatMap StE.cells)[j]? = some u → W.cell? (a.add j) = some u) →
      ∃ v' w', (Builtin.append_ #[22, 22] ty #[v, .slice sa xs.length cap]).run Tryz.prog W = .ok v' w' ∧ LRow w' base v' (acc ++ xs) ∧ ExtR v.ownBlock W w' ∧ (v'.ownBlock = v.ownBlock ∨ ∃ k, v'.ownBlock = some k ∧ W.heap.size ≤ k) := fun a ha hc => by
    subst ha
    obtain ⟨v', w', h1', h2, h3, -, h5⟩ := run_append_own_at (P := Tryz.prog) W base 22 ty 28 i0 _ 6 48 Tryz.underlying22 hi hz0 hz1 hz2 rfl (by decide) v acc.length _ hown a xs.length cap (xs.flatMap StE.cells) (flat_len ste_len xs) hc
      (fun u hu => by obtain ⟨x, -, hx⟩ := List.mem_flatMap.1 hu; exact ste_one x u hx) (by unfold maxLen; omega) (by omega) hb
    refine ⟨v', w', h1', ?_, ⟨h3.os, h3.tape, h3.output, h3.size, fun k hk hn => h3.block k hk (fun e => hn e.symm)⟩, ?_⟩
    · unfold LRow
      rw [List.flatMap_append, List.length_append]
      exact h2
    · rcases h5 with h | h
      · exact .inl h
      · exact .inr ⟨_, h, Nat.le_refl _⟩
  rcases hs with rfl | ⟨b, off, rfl, hc⟩
  · cases sa with
    | some a => exact go a rfl (fun j u hj => by simp at hj)
    | none =>
      obtain ⟨p, c, rfl, hpc⟩ := own_slice hown
      refine ⟨.slice p acc.length c, W, ?_, by simpa using hown, ExtM.refl _, .inl rfl⟩
      cases p with
      | none => simp [Builtin.append_, run_underlying Tryz.underlying22, Builtin.lenOf, Builtin.firstCells, sizeOf, typeInfo, hi, hpc]
      | some a => simp [Builtin.append_, run_underlying Tryz.underlying22, Builtin.lenOf, Builtin.firstCells, sizeOf, typeInfo, hi, hpc, storeCells]
  · exact go _ rfl (fun j u hj => by
      have e1 : (⟨b, off, none⟩ : Addr).add j = ⟨b, off + j, none⟩ := by unfold Addr.add; split <;> simp_all
      rw [e1]; exact hc j u hj)
theorem lrow_empty {W : World} {N nb : Nat} (h : W.heap[nb]? = some (.cells #[] 28 (0, 0))) (hN : N ≤ nb) : LRow W N (.slice (some ⟨nb, 0, none⟩) 0 0) [] :=
  ⟨rfl, .inr ⟨nb, 0, #[], rfl, hN, h, Nat.le_refl _, Nat.zero_le _, rfl, rfl⟩⟩

/-- Between the rounds: the tales a and b, at Ta and Tb, and the slice v with the steps xs. -/
structure Two2 (w0 w : World) (Ta Tb : Nat) (lo hi md : Int) (sa sb : TSt) (v : Value) (xs : List StE) (Fa Fb : Nat → Prop) : Prop where
  ext : Ext w0 w
  a : TAt w Ta Fa lo hi md sa
  b : TAt w Tb Fb lo hi md sb
  ab : ∀ k, Fa k → ¬ Fb k
  na : ∀ k, Fa k → w0.heap.size ≤ k
  nb : ∀ k, Fb k → w0.heap.size ≤ k
  row : LRow w w0.heap.size v xs
  va : ∀ k, v.ownBlock = some k → ¬ Fa k ∧ ¬ Fb k
section
variable {w0 w w' : World} {Ta Tb : Nat} {lo hi md : Int} {sa sb : TSt} {v : Value} {xs : List StE} {Fa Fb : Nat → Prop}
theorem Two2.of (h : Two2 w0 w Ta Tb lo hi md sa sb v xs Fa Fb) (hx : Ext w w') : Two2 w0 w' Ta Tb lo hi md sa sb v xs Fa Fb :=
  ⟨ExtM.trans _ _ _ h.ext hx, h.a.ext hx, h.b.ext hx, h.ab, h.na, h.nb, own_ext h.row hx (fun _ _ h => h), h.va⟩
theorem Two2.rowed {v' : Value} {xs' : List StE} {M : Nat → Prop} (h : Two2 w0 w Ta Tb lo hi md sa sb v xs Fa Fb) (hx : ExtM M w w') (hM : ∀ k, M k → v.ownBlock = some k ∨ w.heap.size ≤ k) (hr : LRow w' w0.heap.size v' xs') (hb : ∀ k, v'.ownBlock = some k → v.ownBlock = some k ∨ w.heap.size ≤ k) :
    Two2 w0 w' Ta Tb lo hi md sa sb v' xs' Fa Fb := by
  have hMa : ∀ k, Fa k → ¬ M k := fun k hk hm => (hM k hm).elim (fun e => (h.va k e).1 hk) (fun e => by have := h.a.lt k hk; omega)
  have hMb : ∀ k, Fb k → ¬ M k := fun k hk hm => (hM k hm).elim (fun e => (h.va k e).2 hk) (fun e => by have := h.b.lt k hk; omega)
  refine ⟨h.ext.fresh hx (fun k hk e => ?_), h.a.keep hx hMa, h.b.keep hx hMb, h.ab, h.na, h.nb, hr, fun k hk => ?_⟩
  · rcases hM k e with e | e
    · have := (own_lt h.row k e).1; omega
    · have := h.ext.size; omega
  · rcases hb k hk with e | e
    · exact h.va k e
    · exact ⟨fun q => by have := h.a.lt k q; omega, fun q => by have := h.b.lt k q; omega⟩
theorem Two2.upA {sa' : TSt} (h : Two2 w0 w Ta Tb lo hi md sa sb v xs Fa Fb) (hu : TUp w w' Ta Fa lo hi md sa') : ∃ Fa', Two2 w0 w' Ta Tb lo hi md sa' sb v xs Fa' Fb := by
  obtain ⟨hx, Fa', ha, hF⟩ := hu
  refine ⟨Fa', h.ext.fresh hx (fun k hk e => by have := h.na k e; omega), ha, h.b.keep hx (fun k hb ha => h.ab k ha hb), fun k hk hb => ?_, fun k hk => ?_, h.nb, own_ext h.row hx (fun k hk e => (h.va k hk).1 e), fun k hk => ⟨fun q => ?_, (h.va k hk).2⟩⟩
  · rcases hF k hk with e | e
    · exact h.ab k e hb
    · have := h.b.lt k hb; omega
  · rcases hF k hk with e | e
    · exact h.na k e
    · have := h.ext.size; omega
  · rcases hF k q with e | e
    · exact (h.va k hk).1 e
    · have := (own_lt h.row k hk).2; omega
theorem Two2.upB {sb' : TSt} (h : Two2 w0 w Ta Tb lo hi md sa sb v xs Fa Fb) (hu : TUp w w' Tb Fb lo hi md sb') : ∃ Fb', Two2 w0 w' Ta Tb lo hi md sa sb' v xs Fa Fb' := by
  obtain ⟨hx, Fb', hb, hF⟩ := hu
  refine ⟨Fb', h.ext.fresh hx (fun k hk e => by have := h.nb k e; omega), h.a.keep hx (fun k ha hb => h.ab k ha hb), hb, fun k ha hk => ?_, h.na, fun k hk => ?_, own_ext h.row hx (fun k hk e => (h.va k hk).2 e), fun k hk => ⟨(h.va k hk).1, fun q => ?_⟩⟩
  · rcases hF k hk with e | e
    · exact h.ab k ha e
    · have := h.a.lt k ha; omega
  · rcases hF k hk with e | e
    · exact h.nb k e
    · have := h.ext.size; omega
  · rcases hF k q with e | e
    · exact (h.va k hk).2 e
    · have := (own_lt h.row k hk).2; omega
end
/-- A tale takes what a step picks. -/
theorem doesX_c {u : World} {T : Nat} {Fs : Nat → Prop} {lo hi md : Int} {s : TSt} {n : Nat} (h : TAt u T Fs lo hi md s) (ok : TOk lo hi md s n) (hn : n < 200) (hp : PlanOk lo hi) (hL : Laid u) (hz : ¬ Fs 0) (x : StE) (hx : x.ok) (hw : x.what = 0) :
    Calls Tryz.prog 9 #[.pointer (some ⟨T, 0, none⟩), x.agg] u fun e u' => e = .returned (.bool true) ∧ TUp u u' T Fs lo hi md (feedX lo hi md s x) := by
  obtain ⟨wh, sd, nn, k, t, v⟩ := x
  obtain ⟨i1, i2, i3, i4⟩ := hx
  simp only at hw
  subst hw
  have h2 := (StE.mk 0 sd nn k t v).sd_two
  unfold feedX
  rcases h2 with e | e
  · rw [e]; exact does00_c h ok hn hp hL hz sd nn k t v i1 i2 i3 i4 e
  · rw [e]; exact does01_c h ok hn hp hL hz sd nn k t v i1 i2 i3 i4 e
end Go.Proofs.YtmcgnnmffeojpaaGreatDoor
