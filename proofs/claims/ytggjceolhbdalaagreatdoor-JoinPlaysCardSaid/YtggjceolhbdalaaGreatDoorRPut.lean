/- The reference's join: its rows as they came. The reference's Put. -/
import Derived.Test.YtggjceolhbdalaaGreatDoorSideLaw
import Derived.Test.YtggjceolhbdalaaGreatDoorKRow
import Derived.Test.YtggjceolhbdalaaGreatDoorPlanB
-- RJoin
namespace Go.Proofs.YtggjceolhbdalaaGreatDoor
open Go.RowKit Go.Plan

def RHd.cells (x : RHd) : List Value := [.int .i64 x.r.k, .int .i64 x.r.t, .int .i64 x.r.v, .int .i64 x.m, .int .i64 x.c]
theorem rhd_len (h : RHd) : h.cells.length = 5 := rfl
theorem rhd_one (x : RHd) : ∀ v ∈ x.cells, v.oneCell' = true := by
  intro v hv
  simp only [RHd.cells, List.mem_cons, List.not_mem_nil, or_false] at hv
  rcases hv with rfl | rfl | rfl | rfl | rfl <;> rfl
/-- The slice v owns these. -/
def JRow (w : World) (base : Nat) (v : Value) (l : List RHd) : Prop := w.ownsRow base 81 5 v l.length (l.flatMap RHd.cells)
theorem infoRH : (Tryz.prog.info? 81).map (fun i => (i.zero, i.size, i.bytes)) = some (some (.agg #[.int .i64 0, .int .i64 0, .int .i64 0, .int .i64 0, .int .i64 0]), 5, 40) := by kernel_rfl

theorem run_appendR (W : World) (base nb c : Nat) (v : Value) (acc : List RHd) (x : RHd) (ty : TypeId) (hown : JRow W base v acc) (hx : ∀ j u, x.cells[j]? = some u → W.cell? ⟨nb, j, none⟩ = some u) (hl : acc.length < 1000000) (hb : base ≤ W.heap.size) :
    ∃ v' w', (Builtin.append_ #[51, 51] ty #[v, .slice (some ⟨nb, 0, none⟩) 1 c]).run Tryz.prog W = .ok v' w' ∧ JRow w' base v' (acc ++ [x]) ∧ ExtR v.ownBlock W w' ∧ (v'.ownBlock = v.ownBlock ∨ ∃ k, v'.ownBlock = some k ∧ W.heap.size ≤ k) :=
  run_appendK rhd_len rhd_one 51 _ 40 infoRH rfl (by decide) Tryz.underlying51 (by decide) W base nb c v acc x ty hown hx hl hb
theorem run_appendRs (W : World) (base bs : Nat) (v s : Value) (acc xs : List RHd) (ty : TypeId) (hown : JRow W base v acc) (hs : JRow W bs s xs) (hl : acc.length + xs.length < 1000000) (hb : base ≤ W.heap.size) :
    ∃ v' w', (Builtin.append_ #[51, 51] ty #[v, s]).run Tryz.prog W = .ok v' w' ∧ JRow w' base v' (acc ++ xs) ∧ ExtR v.ownBlock W w' ∧ (v'.ownBlock = v.ownBlock ∨ ∃ k, v'.ownBlock = some k ∧ W.heap.size ≤ k) :=
  run_appendAllK rhd_len rhd_one 51 _ 40 infoRH rfl (by decide) Tryz.underlying51 (by decide) W base bs v s acc xs ty hown hs hl hb

theorem jrow_empty {W : World} {N nb : Nat} (h : W.heap[nb]? = some (.cells #[] 81 (0, 0))) (hN : N ≤ nb) : JRow W N (.slice (some ⟨nb, 0, none⟩) 0 0) [] :=
  ⟨rfl, .inr ⟨nb, 0, #[], rfl, hN, h, Nat.le_refl _, Nat.zero_le _, rfl, rfl⟩⟩
theorem extF_of_R {N : Nat} {R : Option Nat} {W W' : World} (h : ExtR R W W') (hR : ∀ k, R = some k → N ≤ k) : ExtF N W W' := h.mono (fun k _ e => hR k e)
theorem JRow.ext {w w' : World} {b : Nat} {v : Value} {hs : List RHd} {M : Nat → Prop} (h : JRow w b v hs) (hx : ExtM M w w') (hM : ∀ k, v.ownBlock = some k → ¬ M k) : JRow w' b v hs := own_ext h hx hM
theorem JRow.extF {w w' : World} {b : Nat} {v : Value} {hs : List RHd} (h : JRow w b v hs) (hx : Ext w w') : JRow w' b v hs := own_ext h hx (fun _ _ h => h)

theorem own_ge {w : World} {N : Nat} {v : Value} {hs : List RHd} (h : JRow w N v hs) : ∀ k, v.ownBlock = some k → N ≤ k := fun k hk => (own_lt h k hk).1
theorem heap_a (W : World) (o : Obj) : (W.alloc o).heap[W.heap.size]? = some o := heap_alloc_new W o
theorem heap_b (W : World) (o o' : Obj) : ((W.alloc o).alloc o').heap[W.heap.size]? = some o := (heap_alloc_old _ _ (by simp)).trans (heap_alloc_new W o)
theorem heap_c (W : World) (o o' : Obj) : ((W.alloc o').alloc o).heap[W.heap.size + 1]? = some o := by
  have := heap_alloc_new (W.alloc o') o
  simpa using this
theorem slice_ne {a b : Nat} (h : a ≠ b) : ¬ (Value.slice (some ⟨a, 0, none⟩) 0 0).ownBlock = some b := fun e => h (Option.some.inj e)
theorem newA (W : World) (x : RHd) : ∀ j u, x.cells[j]? = some u → (W.alloc (.cells #[.int .i64 x.r.k, .int .i64 x.r.t, .int .i64 x.r.v, .int .i64 x.m, .int .i64 x.c] 81)).cell? ⟨W.heap.size, j, none⟩ = some u := fun j u hj =>
  (World.cell?_alloc_at _ _ _ j rfl).trans (by simpa [RHd.cells] using hj)
theorem newB (W : World) (o : Obj) (x : RHd) : ∀ j u, x.cells[j]? = some u → ((W.alloc o).alloc (.cells #[.int .i64 x.r.k, .int .i64 x.r.t, .int .i64 x.r.v, .int .i64 x.m, .int .i64 x.c] 81)).cell? ⟨W.heap.size + 1, j, none⟩ = some u := fun j u hj =>
  (World.cell?_alloc_at _ _ _ j (by simp)).trans (by simpa [RHd.cells] using hj)
theorem newC (W : World) (o : Obj) (x : RHd) : ∀ j u, x.cells[j]? = some u → ((W.alloc (.cells #[.int .i64 x.r.k, .int .i64 x.r.t, .int .i64 x.r.v, .int .i64 x.m, .int .i64 x.c] 81)).alloc o).cell? ⟨W.heap.size, j, none⟩ = some u := fun j u hj =>
  (World.cell?_alloc_past _ _ _ (by simp)).trans (newA W x j u hj)
theorem newBd (W : World) (o : Obj) (x : RHd) : ∀ j u, x.cells[j]? = some u → ((W.alloc o).alloc (.cells #[.int .i64 x.r.k, .int .i64 x.r.t, .int .i64 x.r.v, .int .i64 x.m, .int .i64 x.c] 81)).drew.cell? ⟨W.heap.size + 1, j, none⟩ = some u := newB W o x
theorem newCd (W : World) (o : Obj) (x : RHd) : ∀ j u, x.cells[j]? = some u → ((W.alloc (.cells #[.int .i64 x.r.k, .int .i64 x.r.t, .int .i64 x.r.v, .int .i64 x.m, .int .i64 x.c] 81)).alloc o).drew.cell? ⟨W.heap.size, j, none⟩ = some u := newC W o x
theorem keepCells {W W' : World} {R : Option Nat} {nb : Nat} {x : RHd} (h : ∀ j u, x.cells[j]? = some u → W.cell? ⟨nb, j, none⟩ = some u) (hx : ExtR R W W') (hne : ¬ R = some nb) : ∀ j u, x.cells[j]? = some u → W'.cell? ⟨nb, j, none⟩ = some u := fun j u hj => by
  have h0 := h j u hj
  have hlt : nb < W.heap.size := by
    unfold World.cell? at h0
    split at h0
    · rename_i hb; exact (Array.getElem?_eq_some_iff.1 hb).1
    · cases h0
  exact (ExtM.cell hx (p := ⟨nb, j, none⟩) hlt hne).trans h0

/-- One side of the reference's join: its rows, and how many came. -/
structure RJ (w : World) (J s : Nat) (v : Value) (L : List RHd) (came : Int) : Prop where
  hs : s < 2
  c3 : w.cell? ⟨J, 3 + s, none⟩ = some v
  c8 : w.cell? ⟨J, 8, none⟩ = some (.int .i64 came)
  f3 : ∀ o, w.frozen? ⟨J, o, none⟩ = false
  row : JRow w 0 v L
  own : v.ownBlock ≠ some J

theorem put_end {w W1 w18 : World} {J s : Nat} {v18 : Value} {L : List RHd} {came : Int} (hs : s < 2) (hx1 : ExtM (fun k => k = J) w W1) (d8 : W1.cell? ⟨J, 8, none⟩ = some (.int .i64 came)) (fz1 : ∀ o, W1.frozen? ⟨J, o, none⟩ = false) (hcell : ∀ o, o ≠ 8 → W1.cell? ⟨J, o, none⟩ = w.cell? ⟨J, o, none⟩)
    {v : Value} (hd3 : W1.cell? ⟨J, 3 + s, none⟩ = some v) (_ : J < w.heap.size) (hJ1 : J < W1.heap.size) (hN1 : w.heap.size < W1.heap.size) (X18 : ExtF W1.heap.size W1 w18) {x : RHd} (o18 : JRow w18 W1.heap.size v18 (L ++ [x])) :
    ExtM (fun k => k = J) w (w18.setCell ⟨J, 3 + s, none⟩ v18) ∧ ∃ v', RJ (w18.setCell ⟨J, 3 + s, none⟩ v18) J s v' (L ++ [x]) came ∧ (∃ k, v'.ownBlock = some k ∧ w.heap.size ≤ k) ∧ ∀ o, o ≠ 3 + s → o ≠ 8 → (w18.setCell ⟨J, 3 + s, none⟩ v18).cell? ⟨J, o, none⟩ = w.cell? ⟨J, o, none⟩ := by
  have hc := fun o => X18.rules.1 J o hJ1 hJ1
  have hf := fun o => X18.rules.2 J o hJ1 hJ1
  have hx18 : ExtM (fun k => k = J) w w18 := hx1.fresh X18 (fun k hk e => by omega)
  have hge := own_ge o18
  obtain ⟨k, hk⟩ : ∃ k, v18.ownBlock = some k := by
    rcases rowIs_of_own o18 with ⟨-, h0⟩ | ⟨g, cap, f, rfl, -⟩
    · simp at h0
    · exact ⟨g, rfl⟩
  have hkw := hge k hk
  have hex : ∃ u, w18.cell? ⟨J, 3 + s, none⟩ = some u := by
    exact ⟨_, (hc _).trans hd3⟩
  obtain ⟨u, hu⟩ := hex
  refine ⟨ExtM.setCell (p := ⟨J, 3 + s, none⟩) hx18 (.inr rfl) _, v18, ⟨hs, World.cell?_setCell_same _ _ _ hu, ?_, fun o => ?_, ?_, fun e => ?_⟩, ⟨k, hk, by omega⟩, fun o ho ho8 => ?_⟩
  · rw [World.cell?_setCell_other _ _ _ _ (fun e => by injection e with _ e _; omega)]
    exact (hc 8).trans d8
  · rw [World.frozen?_setCell]
    exact (hf o).trans (fz1 o)
  · exact JRow.ext (own_weaken o18 (Nat.zero_le _) : JRow w18 0 v18 (L ++ [x])) (ExtM.setCell (M := fun k => k = J) (ExtM.refl w18) (p := ⟨J, 3 + s, none⟩) (.inr rfl) v18) (fun k' hk' e => by rw [hk] at hk'; have := Option.some.inj hk'; omega)
  · rw [hk] at e
    have := Option.some.inj e
    omega
  · rw [World.cell?_setCell_other _ _ _ _ (fun e => ho (by injection e with _ e _; exact e.symm))]
    exact (hc o).trans (hcell o ho8)

set_option maxRecDepth 100000 in
set_option maxHeartbeats 4000000 in
theorem put_c (J s : Nat) (v : Value) (L : List RHd) (came k t q m : Int) (w : World) (h : RJ w J s v L came) (hl : L.length < 1000) (hc : 0 ≤ came ∧ came < 1000000) :
    Calls Tryz.prog 32 #[.pointer (some ⟨J, 0, none⟩), .int .i64 (s : Int), .agg #[.int .i64 k, .int .i64 t, .int .i64 q], .int .i64 m] w fun e w' => e = .returned (.tuple #[]) ∧ ExtM (fun k => k = J) w w' ∧
      ∃ v', RJ w' J s v' (L ++ [⟨⟨k, t, q⟩, m, came + 1⟩]) (came + 1) ∧ (∃ k, v'.ownBlock = some k ∧ w.heap.size ≤ k) ∧ ∀ o, o ≠ 3 + s → o ≠ 8 → w'.cell? ⟨J, o, none⟩ = w.cell? ⟨J, o, none⟩ := by
  obtain ⟨hs, c3, c8, f3, row, own⟩ := h
  have hJ : J < w.heap.size := by
    unfold World.cell? at c8
    split at c8
    · rename_i hb; exact (Array.getElem?_eq_some_iff.1 hb).1
    · cases c8
  have hw1 : IntKind.i64.wrap (came + 1) = came + 1 := by rw [IntKind.wrap_i64]; omega
  have hfz := f3
  go_enter Tryz.func32, Tryz.ntmps32
  go_wp2_with fail
  have hx1 : ExtM (fun k => k = J) w ((w.setCell ⟨J, 8, none⟩ (.int .i64 (came + 1))).alloc (.cells #[.int .i64 k, .int .i64 t, .int .i64 q] 37)) := ExtM.alloc (ExtM.setCell (M := fun k => k = J) (ExtM.refl w) (p := ⟨J, 8, none⟩) (.inr rfl) _) _
  have d8 : ((w.setCell ⟨J, 8, none⟩ (.int .i64 (came + 1))).alloc (.cells #[.int .i64 k, .int .i64 t, .int .i64 q] 37)).cell? ⟨J, 8, none⟩ = some (.int .i64 (came + 1)) := by go_simp
  have hcell : ∀ o, o ≠ 8 → ((w.setCell ⟨J, 8, none⟩ (.int .i64 (came + 1))).alloc (.cells #[.int .i64 k, .int .i64 t, .int .i64 q] 37)).cell? ⟨J, o, none⟩ = w.cell? ⟨J, o, none⟩ := fun o ho => by
    rw [World.cell?_alloc_past _ _ _ (by rw [World.size_setCell]; exact hJ), World.cell?_setCell_other _ _ _ _ (fun e => ho (by injection e with _ e _; exact e.symm))]
  have fz1 : ∀ o, ((w.setCell ⟨J, 8, none⟩ (.int .i64 (came + 1))).alloc (.cells #[.int .i64 k, .int .i64 t, .int .i64 q] 37)).frozen? ⟨J, o, none⟩ = false := fun o => by
    rw [World.frozen?_alloc_past _ _ _ (by rw [World.size_setCell]; exact hJ), World.frozen?_setCell]; exact f3 o
  have b0 : ((w.setCell ⟨J, 8, none⟩ (.int .i64 (came + 1))).alloc (.cells #[.int .i64 k, .int .i64 t, .int .i64 q] 37)).cell? ⟨w.heap.size, 0, none⟩ = some (.int .i64 k) := by go_simp
  have b1 : ((w.setCell ⟨J, 8, none⟩ (.int .i64 (came + 1))).alloc (.cells #[.int .i64 k, .int .i64 t, .int .i64 q] 37)).cell? ⟨w.heap.size, 1, none⟩ = some (.int .i64 t) := by go_simp
  have b2 : ((w.setCell ⟨J, 8, none⟩ (.int .i64 (came + 1))).alloc (.cells #[.int .i64 k, .int .i64 t, .int .i64 q] 37)).cell? ⟨w.heap.size, 2, none⟩ = some (.int .i64 q) := by go_simp
  have hN1 : w.heap.size < ((w.setCell ⟨J, 8, none⟩ (.int .i64 (came + 1))).alloc (.cells #[.int .i64 k, .int .i64 t, .int .i64 q] 37)).heap.size := by simp
  generalize (w.setCell ⟨J, 8, none⟩ (.int .i64 (came + 1))).alloc (.cells #[.int .i64 k, .int .i64 t, .int .i64 q] 37) = W1 at *
  have d3 : W1.cell? ⟨J, 3 + s, none⟩ = some v := (hcell _ (by omega)).trans c3
  have hJ1 : J < W1.heap.size := by omega
  have row1 : JRow W1 0 v L := row.ext hx1 (fun k hk e => own (by rw [hk, e]))
  clear c3 c8 f3 hfz
  refine Plan.beginT (Plan.ExtF W1.heap.size) [22] 23 rfl (by kernel_rfl) ?_
  refine Plan.left_q 0 (by rfl) (by kernel_rfl) ?_; go_big_quiet_step (fail); refine wpQuiet_nil ?_
  refine Plan.left_q 1 (by rfl) (by kernel_rfl) ?_; go_big_quiet_step (fail); refine wpQuiet_nil ?_
  refine Plan.left_q 3 (by rfl) (by kernel_rfl) ?_; go_big_quiet_step (fail); refine wpQuiet_nil ?_
  refine Plan.left_q 4 (by rfl) (by kernel_rfl) ?_; go_big_quiet_step (fail); refine wpQuiet_nil ?_
  refine Plan.left_q 5 (by rfl) (by kernel_rfl) ?_; go_big_quiet_step (fail); refine wpQuiet_nil ?_
  refine Plan.left_q 6 (by rfl) (by kernel_rfl) ?_; go_big_quiet_step (fail); refine wpQuiet_nil ?_
  refine Plan.left_q 7 (by rfl) (by kernel_rfl) ?_; go_big_quiet_step (fail); refine wpQuiet_nil ?_
  refine Plan.left_q 8 (by rfl) (by kernel_rfl) ?_; go_big_quiet_step (fail); refine wpQuiet_nil ?_
  refine Plan.left_q 10 (by rfl) (by kernel_rfl) ?_; go_big_quiet_step (fail); refine wpQuiet_nil ?_
  refine Plan.left_q 11 (by rfl) (by kernel_rfl) ?_; go_big_quiet_step (fail); refine wpQuiet_nil ?_
  refine Plan.left_q 12 (by rfl) (by kernel_rfl) ?_; go_big_quiet_step (fail); refine wpQuiet_nil ?_
  refine Plan.left_q 13 (by rfl) (by kernel_rfl) ?_; go_big_quiet_step (fail); refine wpQuiet_nil ?_
  refine Plan.left_q 14 (by rfl) (by kernel_rfl) ?_; go_big_quiet_step (fail); refine wpQuiet_nil ?_
  refine Plan.left_q 15 (by rfl) (by kernel_rfl) ?_; go_big_quiet_step (fail); refine wpQuiet_nil ?_
  refine Plan.left_q 16 (by rfl) (by kernel_rfl) ?_; go_big_quiet_step (fail); refine wpQuiet_nil ?_
  refine Plan.left_p 19 (by rfl) (by kernel_rfl) ?_; go_big_quiet_step (fail); refine wpQuiet_nil ?_
  refine Plan.left_p 20 (by rfl) (by kernel_rfl) ?_; go_big_quiet_step (fail); refine wpQuiet_nil ?_
  refine Plan.left_two 2 17 (by kernel_rfl) (by rfl) (by rfl) (Plan.plain rfl fun K hK => ?_) (Plan.plain rfl fun K hK => ?_)
  focus
    go_wp2_with (fail)
    refine hK _ _ ((ExtM.refl _).alloc _) ?_
    clear hK K
    refine Plan.left_two 9 17 (by kernel_rfl) (by rfl) (by rfl) (Plan.plain rfl fun K hK => ?_) (Plan.plain rfl fun K hK => ?_)
    focus
      refine wp_append_law (run_appendRs _ W1.heap.size 0 _ _ [] L _ (jrow_empty (by first | exact heap_a W1 _ | exact heap_b W1 _ _ | exact heap_c W1 _ _) (by simp)) (row1.extF (by first | exact ((ExtM.refl W1).drew.alloc _) | exact (((ExtM.refl W1).drew.alloc _).alloc _))) (by simp; omega) (by (try simp); (try omega))) _ _ rfl rfl rfl ?_
      rintro v9 w9 ⟨o9, x9, l9⟩
      have y9 := extF_of_R (N := W1.heap.size) x9 (by rintro _ ⟨rfl⟩; simp)
      refine hK _ _ (y9) ?_
      simp only [Act.put, List.setIfInBounds_toArray, List.set_cons_succ, List.set_cons_zero]
      clear hK K
      refine Plan.left_one 17 (by kernel_rfl) (by rfl) (Plan.plain rfl fun K hK => ?_)
      go_wp2_with (fail)
      refine hK _ _ ((ExtM.refl _).alloc _) ?_
      clear hK K
      refine Plan.left_one 18 (by kernel_rfl) (by rfl) (Plan.plain rfl fun K hK => ?_)
      refine wp_append_law (run_appendR _ W1.heap.size _ _ _ L ⟨⟨k, t, q⟩, m, came + 1⟩ _ (by first | exact o9 | exact o9.extF ((ExtM.refl w9).alloc _)) (by first | exact newA w9 ⟨⟨k, t, q⟩, m, came + 1⟩ | exact keepCells (newBd W1 _ ⟨⟨k, t, q⟩, m, came + 1⟩) x9 (slice_ne (by omega)) | exact keepCells (newCd W1 _ ⟨⟨k, t, q⟩, m, came + 1⟩) x9 (slice_ne (by omega))) (by omega) (by have s9 := y9.size; simp at s9 ⊢; omega)) _ _ rfl rfl rfl ?_
      rintro v18 w18 ⟨o18, x18, l18⟩
      have y18 := extF_of_R (N := W1.heap.size) x18 (own_ge o9)
      have X9 : Plan.ExtF W1.heap.size W1 w9 := by first | exact ExtF.trans _ _ _ ((ExtF.refl W1).drew.alloc _) y9 | exact ExtF.trans _ _ _ (((ExtF.refl W1).drew.alloc _).alloc _) y9
      have X18 : Plan.ExtF W1.heap.size W1 w18 := by first | exact ExtF.trans _ _ _ X9 y18 | exact ExtF.trans _ _ _ (X9.alloc _) y18
      have c18 := (X18.rules.1 J (3 + s) hJ1 hJ1).trans d3
      have f18 := (X18.rules.2 J (3 + s) hJ1 hJ1).trans (fz1 _)
      obtain ⟨p18, q18, rfl, -⟩ := own_slice o18
      refine hK _ _ (y18) ?_
      simp only [Act.put, List.setIfInBounds_toArray, List.set_cons_succ, List.set_cons_zero]
      clear hK K
      refine Plan.left_one 21 (by kernel_rfl) (by rfl) (Plan.plain rfl fun K hK => ?_)
      go_wp2_with (fail)
      refine hK _ _ (ExtM.refl _) ?_
      clear hK K
      refine Plan.left_one 22 (by kernel_rfl) (by rfl) (Plan.last rfl (by kernel_rfl) fun K hK => ?_)
      go_wp2_with (fail)
      refine Plan.left_done (by kernel_rfl) ?_
    rotate_left
    focus
      go_wp2_with (fail)
      refine hK _ _ ((ExtM.refl _).alloc _) ?_
      clear hK K
      refine Plan.left_one 9 (by kernel_rfl) (by rfl) (Plan.plain rfl fun K hK => ?_)
      refine wp_append_law (run_appendRs _ W1.heap.size 0 _ _ [] L _ (jrow_empty (by first | exact heap_a W1 _ | exact heap_b W1 _ _ | exact heap_c W1 _ _) (by simp)) (row1.extF (by first | exact ((ExtM.refl W1).drew.alloc _) | exact (((ExtM.refl W1).drew.alloc _).alloc _))) (by simp; omega) (by (try simp); (try omega))) _ _ rfl rfl rfl ?_
      rintro v9 w9 ⟨o9, x9, l9⟩
      have y9 := extF_of_R (N := W1.heap.size) x9 (by rintro _ ⟨rfl⟩; simp)
      refine hK _ _ (y9) ?_
      simp only [Act.put, List.setIfInBounds_toArray, List.set_cons_succ, List.set_cons_zero]
      clear hK K
      refine Plan.left_one 18 (by kernel_rfl) (by rfl) (Plan.plain rfl fun K hK => ?_)
      refine wp_append_law (run_appendR _ W1.heap.size _ _ _ L ⟨⟨k, t, q⟩, m, came + 1⟩ _ (by first | exact o9 | exact o9.extF ((ExtM.refl w9).alloc _)) (by first | exact newA w9 ⟨⟨k, t, q⟩, m, came + 1⟩ | exact keepCells (newBd W1 _ ⟨⟨k, t, q⟩, m, came + 1⟩) x9 (slice_ne (by omega)) | exact keepCells (newCd W1 _ ⟨⟨k, t, q⟩, m, came + 1⟩) x9 (slice_ne (by omega))) (by omega) (by have s9 := y9.size; simp at s9 ⊢; omega)) _ _ rfl rfl rfl ?_
      rintro v18 w18 ⟨o18, x18, l18⟩
      have y18 := extF_of_R (N := W1.heap.size) x18 (own_ge o9)
      have X9 : Plan.ExtF W1.heap.size W1 w9 := by first | exact ExtF.trans _ _ _ ((ExtF.refl W1).drew.alloc _) y9 | exact ExtF.trans _ _ _ (((ExtF.refl W1).drew.alloc _).alloc _) y9
      have X18 : Plan.ExtF W1.heap.size W1 w18 := by first | exact ExtF.trans _ _ _ X9 y18 | exact ExtF.trans _ _ _ (X9.alloc _) y18
      have c18 := (X18.rules.1 J (3 + s) hJ1 hJ1).trans d3
      have f18 := (X18.rules.2 J (3 + s) hJ1 hJ1).trans (fz1 _)
      obtain ⟨p18, q18, rfl, -⟩ := own_slice o18
      refine hK _ _ (y18) ?_
      simp only [Act.put, List.setIfInBounds_toArray, List.set_cons_succ, List.set_cons_zero]
      clear hK K
      refine Plan.left_one 21 (by kernel_rfl) (by rfl) (Plan.plain rfl fun K hK => ?_)
      go_wp2_with (fail)
      refine hK _ _ (ExtM.refl _) ?_
      clear hK K
      refine Plan.left_one 22 (by kernel_rfl) (by rfl) (Plan.last rfl (by kernel_rfl) fun K hK => ?_)
      go_wp2_with (fail)
      refine Plan.left_done (by kernel_rfl) ?_
  rotate_left 2
  focus
    go_wp2_with (fail)
    refine hK _ _ ((ExtM.refl _).alloc _) ?_
    clear hK K
    refine Plan.left_one 2 (by kernel_rfl) (by rfl) (Plan.plain rfl fun K hK => ?_)
    go_wp2_with (fail)
    refine hK _ _ ((ExtM.refl _).alloc _) ?_
    clear hK K
    refine Plan.left_one 9 (by kernel_rfl) (by rfl) (Plan.plain rfl fun K hK => ?_)
    refine wp_append_law (run_appendRs _ W1.heap.size 0 _ _ [] L _ (jrow_empty (by first | exact heap_a W1 _ | exact heap_b W1 _ _ | exact heap_c W1 _ _) (by simp)) (row1.extF (by first | exact ((ExtM.refl W1).drew.alloc _) | exact (((ExtM.refl W1).drew.alloc _).alloc _))) (by simp; omega) (by (try simp); (try omega))) _ _ rfl rfl rfl ?_
    rintro v9 w9 ⟨o9, x9, l9⟩
    have y9 := extF_of_R (N := W1.heap.size) x9 (by rintro _ ⟨rfl⟩; simp)
    refine hK _ _ (y9) ?_
    simp only [Act.put, List.setIfInBounds_toArray, List.set_cons_succ, List.set_cons_zero]
    clear hK K
    refine Plan.left_one 18 (by kernel_rfl) (by rfl) (Plan.plain rfl fun K hK => ?_)
    refine wp_append_law (run_appendR _ W1.heap.size _ _ _ L ⟨⟨k, t, q⟩, m, came + 1⟩ _ (by first | exact o9 | exact o9.extF ((ExtM.refl w9).alloc _)) (by first | exact newA w9 ⟨⟨k, t, q⟩, m, came + 1⟩ | exact keepCells (newBd W1 _ ⟨⟨k, t, q⟩, m, came + 1⟩) x9 (slice_ne (by omega)) | exact keepCells (newCd W1 _ ⟨⟨k, t, q⟩, m, came + 1⟩) x9 (slice_ne (by omega))) (by omega) (by have s9 := y9.size; simp at s9 ⊢; omega)) _ _ rfl rfl rfl ?_
    rintro v18 w18 ⟨o18, x18, l18⟩
    have y18 := extF_of_R (N := W1.heap.size) x18 (own_ge o9)
    have X9 : Plan.ExtF W1.heap.size W1 w9 := by first | exact ExtF.trans _ _ _ ((ExtF.refl W1).drew.alloc _) y9 | exact ExtF.trans _ _ _ (((ExtF.refl W1).drew.alloc _).alloc _) y9
    have X18 : Plan.ExtF W1.heap.size W1 w18 := by first | exact ExtF.trans _ _ _ X9 y18 | exact ExtF.trans _ _ _ (X9.alloc _) y18
    have c18 := (X18.rules.1 J (3 + s) hJ1 hJ1).trans d3
    have f18 := (X18.rules.2 J (3 + s) hJ1 hJ1).trans (fz1 _)
    obtain ⟨p18, q18, rfl, -⟩ := own_slice o18
    refine hK _ _ (y18) ?_
    simp only [Act.put, List.setIfInBounds_toArray, List.set_cons_succ, List.set_cons_zero]
    clear hK K
    refine Plan.left_one 21 (by kernel_rfl) (by rfl) (Plan.plain rfl fun K hK => ?_)
    go_wp2_with (fail)
    refine hK _ _ (ExtM.refl _) ?_
    clear hK K
    refine Plan.left_one 22 (by kernel_rfl) (by rfl) (Plan.last rfl (by kernel_rfl) fun K hK => ?_)
    go_wp2_with (fail)
    refine Plan.left_done (by kernel_rfl) ?_
  all_goals
    go_end0
    simp only [List.length_append, List.length_singleton] at o18
    exact ⟨rfl, put_end hs hx1 d8 fz1 hcell d3 hJ hJ1 hN1 X18 o18⟩
end Go.Proofs.YtggjceolhbdalaaGreatDoor

-- RPut
namespace Go.Proofs.YtggjceolhbdalaaGreatDoor
open Go.RowKit Go.Plan

/-- A side of the reference's join behind a Put. -/
def putL (L : List RHd) (x : Hd) (came : Int) : List RHd := if addE (L.map RHd.hd) x = 0 then L ++ [⟨x.r, x.m, came + 1⟩] else L
def putN (L : List RHd) (x : Hd) (came : Int) : Int := if addE (L.map RHd.hd) x = 0 then came + 1 else came
structure RJUp (w w' : World) (J s : Nat) (v : Value) (L' : List RHd) (came' : Int) : Prop where
  is : ∃ v', RJ w' J s v' L' came' ∧ (v'.ownBlock = v.ownBlock ∨ ∃ k, v'.ownBlock = some k ∧ w.heap.size ≤ k)
  ext : ExtM (fun k => k = J) w w'
  cell : ∀ o, o ≠ 3 + s → o ≠ 8 → w'.cell? ⟨J, o, none⟩ = w.cell? ⟨J, o, none⟩
theorem RJ.lt {w : World} {J s : Nat} {v : Value} {L : List RHd} {came : Int} (h : RJ w J s v L came) : J < w.heap.size := by
  have := h.c8
  unfold World.cell? at this
  split at this
  · rename_i hb; exact (Array.getElem?_eq_some_iff.1 hb).1
  · cases this
theorem RJ.ext {w w' : World} {J s : Nat} {v : Value} {L : List RHd} {came : Int} (h : RJ w J s v L came) (hx : Ext w w') : RJ w' J s v L came :=
  ⟨h.hs, (hx.cell (p := ⟨J, _, none⟩) h.lt id).trans h.c3, (hx.cell (p := ⟨J, _, none⟩) h.lt id).trans h.c8, fun o => (hx.frozen (p := ⟨J, o, none⟩) h.lt id).trans (h.f3 o), h.row.extF hx, h.own⟩
theorem RJUp.same {w w' : World} {J s : Nat} {v : Value} {L : List RHd} {came : Int} (h : RJ w J s v L came) (hx : Ext w w') : RJUp w w' J s v L came :=
  ⟨⟨v, h.ext hx, .inl rfl⟩, hx.mono (fun _ _ h => h.elim), fun o _ _ => hx.cell (p := ⟨J, o, none⟩) h.lt id⟩

theorem JRow.slice {w : World} {b : Nat} {v : Value} {L : List RHd} (h : JRow w b v L) : ∃ p cap, v = .slice p L.length cap := by
  obtain ⟨p, cap, e, -⟩ := own_slice h
  exact ⟨p, cap, e⟩


set_option maxRecDepth 100000 in
set_option maxHeartbeats 4000000 in
theorem rputBad_c (J s : Nat) (v : Value) (L : List RHd) (came k t q m : Int) (w : World) (h : RJ w J s v L came) (hb : (goodB k t q && decide (0 ≤ m)) = false) :
    Calls Tryz.prog 15 #[.pointer (some ⟨J, 0, none⟩), .int .i64 (s : Int), .agg #[.int .i64 k, .int .i64 t, .int .i64 q], .int .i64 m] w fun e w' => e = .returned (.int .i64 1) ∧ RJUp w w' J s v L came := by
  have hin : decide ((0 : Int) ≤ (s : Int) ∧ (s : Int) ≤ 1) = true := by simp; have := h.hs; omega
  have hs2 := h.hs
  have hx0 : Ext w (w.alloc (.cells #[.int .i64 k, .int .i64 t, .int .i64 q] 37)) := (ExtM.refl w).alloc _
  cases hg : goodB k t q with
  | false =>
    go_enter Tryz.func15, Tryz.ntmps15
    go_wp2_with (first
      | (go_at_call 24; refine (rin_c _ _ _ _).mono ?_; rintro e w1 ⟨rfl, rfl⟩; rw [hin])
      | (go_at_call 26; refine (rgood_c _ _ _ _).mono ?_; rintro e w1 ⟨rfl, hx⟩; rw [hg]))
    go_ret
    exact ⟨rfl, RJUp.same h (ExtM.trans _ _ _ hx0 hx)⟩
  | true =>
    have hd1 : decide (m < 0) = true := by
      rw [hg] at hb
      simp at hb ⊢
      omega
    go_enter Tryz.func15, Tryz.ntmps15
    go_wp2_with (first
      | (go_at_call 24; refine (rin_c _ _ _ _).mono ?_; rintro e w1 ⟨rfl, rfl⟩; rw [hin])
      | (go_at_call 26; refine (rgood_c _ _ _ _).mono ?_; rintro e w1 ⟨rfl, hx⟩; rw [hg]))
    go_ret
    exact ⟨rfl, RJUp.same h (ExtM.trans _ _ _ hx0 hx)⟩

set_option maxRecDepth 100000 in
set_option maxHeartbeats 4000000 in
theorem rputFull_c (J s : Nat) (v : Value) (L : List RHd) (came k t q m : Int) (w : World) (h : RJ w J s v L came) (hg : goodB k t q = true) (hm : 0 ≤ m) (hl : 300 ≤ L.length) :
    Calls Tryz.prog 15 #[.pointer (some ⟨J, 0, none⟩), .int .i64 (s : Int), .agg #[.int .i64 k, .int .i64 t, .int .i64 q], .int .i64 m] w fun e w' => e = .returned (.int .i64 12) ∧ RJUp w w' J s v L came := by
  have hin : decide ((0 : Int) ≤ (s : Int) ∧ (s : Int) ≤ 1) = true := by simp; have := h.hs; omega
  have hs2 := h.hs
  have hx0 : Ext w (w.alloc (.cells #[.int .i64 k, .int .i64 t, .int .i64 q] 37)) := (ExtM.refl w).alloc _
  have hd1 : decide (m < 0) = false := by simp; omega
  have hd2 : decide ((300 : Int) ≤ (L.length : Int)) = true := by simp; omega
  obtain ⟨p, cap, rfl⟩ := h.row.slice
  have h0 := h
  clear h
  go_enter Tryz.func15, Tryz.ntmps15
  go_wp2_with (first
    | (go_at_call 24; refine (rin_c _ _ _ _).mono ?_; rintro e w1 ⟨rfl, rfl⟩; rw [hin])
    | (go_at_call 26; refine (rgood_c _ _ _ _).mono ?_; rintro e w1 ⟨rfl, hx⟩; rw [hg]; have c1 := ((h0.ext hx0).ext hx).c3))
  go_ret
  exact ⟨rfl, RJUp.same h0 (ExtM.trans _ _ _ hx0 hx)⟩

set_option maxRecDepth 100000 in
set_option maxHeartbeats 4000000 in
theorem rputIn_c (J s : Nat) (v : Value) (L : List RHd) (came k t q m : Int) (w : World) (h : RJ w J s v L came) (hg : goodB k t q = true) (hm : 0 ≤ m) (hl : L.length < 300) (hc : 0 ≤ came ∧ came < 1000000) :
    Calls Tryz.prog 15 #[.pointer (some ⟨J, 0, none⟩), .int .i64 (s : Int), .agg #[.int .i64 k, .int .i64 t, .int .i64 q], .int .i64 m] w fun e w' => e = .returned (.int .i64 0) ∧ RJUp w w' J s v (L ++ [⟨⟨k, t, q⟩, m, came + 1⟩]) (came + 1) := by
  have hin : decide ((0 : Int) ≤ (s : Int) ∧ (s : Int) ≤ 1) = true := by simp; have := h.hs; omega
  have hs2 := h.hs
  have hx0 : Ext w (w.alloc (.cells #[.int .i64 k, .int .i64 t, .int .i64 q] 37)) := (ExtM.refl w).alloc _
  have hd1 : decide (m < 0) = false := by simp; omega
  have hd2 : decide ((300 : Int) ≤ (L.length : Int)) = false := by simp; omega
  obtain ⟨p, cap, rfl⟩ := h.row.slice
  have h0 := h
  have hlt := h.lt
  clear h
  go_enter Tryz.func15, Tryz.ntmps15
  go_wp2_with (first
    | (go_at_call 24; refine (rin_c _ _ _ _).mono ?_; rintro e w1 ⟨rfl, rfl⟩; rw [hin])
    | (go_at_call 26
       refine (rgood_c _ _ _ _).mono ?_
       rintro e w1 ⟨rfl, hx⟩
       rw [hg]
       have h1 := (h0.ext hx0).ext hx
       have hxx : Ext w w1 := ExtM.trans _ _ _ hx0 hx
       have c1 := h1.c3
       have b0 : w1.cell? ⟨w.heap.size, 0, none⟩ = some (.int .i64 k) := (hx.rules.1 _ _ (by simp)).trans (by go_simp)
       have b1 : w1.cell? ⟨w.heap.size, 1, none⟩ = some (.int .i64 t) := (hx.rules.1 _ _ (by simp)).trans (by go_simp)
       have b2 : w1.cell? ⟨w.heap.size, 2, none⟩ = some (.int .i64 q) := (hx.rules.1 _ _ (by simp)).trans (by go_simp)
       clear hx)
    | (go_at_call 32
       refine (put_c J s _ L came k t q m _ h1 (by omega) hc).mono ?_
       rintro e w2 ⟨rfl, hx2, v', hr, ⟨k', hk', hk2⟩, hce⟩))
  go_ret
  have hsz := hxx.size
  exact ⟨rfl, ⟨⟨v', hr, .inr ⟨k', hk', by omega⟩⟩, ExtM.trans _ _ _ (hxx.mono (fun _ _ h => h.elim)) hx2, fun o ho1 ho2 => (hce o ho1 ho2).trans (hxx.cell (p := ⟨J, o, none⟩) hlt id)⟩⟩

theorem rput_c (J s : Nat) (v : Value) (L : List RHd) (came : Int) (x : Hd) (w : World) (h : RJ w J s v L came) (hc : 0 ≤ came ∧ came < 1000000) :
    Calls Tryz.prog 15 #[.pointer (some ⟨J, 0, none⟩), .int .i64 (s : Int), .agg #[.int .i64 x.r.k, .int .i64 x.r.t, .int .i64 x.r.v], .int .i64 x.m] w fun e w' => e = .returned (.int .i64 (addE (L.map RHd.hd) x)) ∧ RJUp w w' J s v (putL L x came) (putN L x came) := by
  unfold putL putN addE
  rw [List.length_map]
  split
  · rename_i hb
    exact rputBad_c J s v L came _ _ _ _ w h hb
  · rename_i hb
    have hg : goodB x.r.k x.r.t x.r.v = true ∧ 0 ≤ x.m := by simpa using hb
    split
    · rename_i hf
      exact rputFull_c J s v L came _ _ _ _ w h hg.1 hg.2 hf
    · rename_i hf
      exact rputIn_c J s v L came _ _ _ _ w h hg.1 hg.2 (by omega) hc
end Go.Proofs.YtggjceolhbdalaaGreatDoor
