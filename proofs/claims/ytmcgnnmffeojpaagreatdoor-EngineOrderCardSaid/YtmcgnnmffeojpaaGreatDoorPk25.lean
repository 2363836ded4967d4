/- What '(*Groups).Of' computes. -/
import Derived.Test.YtmcgnnmffeojpaaGreatDoorPk24
namespace Go.Proofs.YtmcgnnmffeojpaaGreatDoor
open Go.RowKit Go.Plan

/-- A group as a value. -/
def grpV (key cnt sum least most : Int) (some : Bool) : Value := .agg #[.int .i64 key, .int .i64 cnt, .int .i64 sum, .int .i64 least, .int .i64 most, .bool some]
/-- What is told of a key that comes to a. -/
def grpOf (key : Int) (a : GS) : Value := grpV key a.cnt a.sum (a.right.getD 0 0) (a.right.getD (a.right.length - 1) 0) (decide (0 < a.right.length))

/-- What a lookup of a key finds. -/
theorem look_st {w : World} {G o : Nat} {D : Option Nat} {ents : List Ent} (h : GrpIs w G o D ents) {key : Int} (hk : I64 key) (u : World) (hu : Ext w u) :
    (Instr.lookup 67 (.map D) (.int .i64 key) false).run Tryz.prog u = .ok (.pointer ((ents.find? (fun e => decide (e.key = key))).map fun e => ⟨e.S, 0, none⟩)) u := by
  rcases h.mp with ⟨rfl, rfl⟩ | ⟨d, rfl, hdG, hm⟩
  · obtain ⟨l, hl⟩ := keyI key hk
    have hf : (Instr.findKey 3 (.int .i64 key) []).run Tryz.prog u = .ok none u := by
      rcases intLaw.find u hl [] (by simp) with ⟨h, -⟩ | ⟨j, e, -, h, -⟩
      · exact h
      · simp at h
    simp [Instr.lookup, run_underlying Tryz.underlying67, intLaw.check u _ hl, hf, zeroPtr, Result.andThen]
  · have := (hm.of hu id).run_look false intLaw intI_inj Tryz.underlying67 zeroPtr key (keyI _ hk)
    rw [look_prs] at this
    cases hfd : ents.find? (fun e => decide (e.key = key)) <;> rw [hfd] at this <;> simpa using this

theorem IRow.at {w : World} {v : Value} {xs : List Int} (h : IRow w v xs) (h0 : 0 < xs.length) : ∃ g cap, v = .slice (some ⟨g, 0, none⟩) xs.length cap ∧ xs.length ≤ cap ∧ g < w.heap.size ∧ ∀ j, j < xs.length → w.cell? ⟨g, j, none⟩ = some (.int .i64 (xs.getD j 0)) := by
  rcases h with ⟨rfl, rfl⟩ | ⟨g, cap, f, rfl, h1, h2, h3, h4, h5⟩
  · simp at h0
  · exact ⟨g, cap, rfl, h2, h1.lt, fun j hj => by rw [h1.cell (by omega), h5 j hj]⟩

set_option maxRecDepth 100000 in
set_option maxHeartbeats 4000000 in
theorem grpOfNone_c (G o : Nat) (D : Option Nat) (ents : List Ent) (key : Int) (w : World) (h : GrpIs w G o D ents) (hk : I64 key) (ha : st ents key = none) :
    Calls Tryz.prog 46 #[.pointer (some ⟨G, o, none⟩), .int .i64 key] w fun e w' => e = .returned (.tuple #[grpV 0 0 0 0 0 false, .iface 48 (.int .i64 8)]) ∧ Ext w w' := by
  have hG := h.ltG
  have c0 := h.c0
  have f0 := h.f0
  have hlk : ∀ (u : World), Ext w u → (Instr.lookup 67 (.map D) (.int .i64 key) false).run Tryz.prog u = .ok (.pointer none) u := fun u hu => by
    rw [look_st h hk u hu]
    have : ents.find? (fun e => decide (e.key = key)) = none := by simpa [st] using ha
    rw [this]; rfl
  clear ha h
  have hlq := hlk (w.alloc (.cells #[.int .i64 0, .int .i64 0, .int .i64 0, .int .i64 0, .int .i64 0, .bool false] 60)) ((ExtM.refl _).alloc _)
  clear hlk
  go_enter Tryz.func46, Tryz.ntmps46
  go_wp2_with fail
  exact bodyPost_ret (v := .tuple #[grpV 0 0 0 0 0 false, .iface 48 (.int .i64 8)]) (by simp [grpV, results, Tryz.results46, go_sem]) rfl ⟨rfl, (ExtM.refl _).alloc _⟩

/-- A group's cells in a block of its own. -/
structure BoxG (w : World) (n : Nat) (k c s l m : Int) (b : Bool) : Prop where
  e0 : w.cell? ⟨n, 0, none⟩ = some (.int .i64 k)
  e1 : w.cell? ⟨n, 1, none⟩ = some (.int .i64 c)
  e2 : w.cell? ⟨n, 2, none⟩ = some (.int .i64 s)
  e3 : w.cell? ⟨n, 3, none⟩ = some (.int .i64 l)
  e4 : w.cell? ⟨n, 4, none⟩ = some (.int .i64 m)
  e5 : w.cell? ⟨n, 5, none⟩ = some (.bool b)
  f0 : w.frozen? ⟨n, 0, none⟩ = false
  f1 : w.frozen? ⟨n, 1, none⟩ = false
  f2 : w.frozen? ⟨n, 2, none⟩ = false
  f3 : w.frozen? ⟨n, 3, none⟩ = false
  f4 : w.frozen? ⟨n, 4, none⟩ = false
  f5 : w.frozen? ⟨n, 5, none⟩ = false
theorem BoxG.mk' (w : World) (k c s l m : Int) (b : Bool) (t : TypeId) : BoxG (w.alloc (.cells #[.int .i64 k, .int .i64 c, .int .i64 s, .int .i64 l, .int .i64 m, .bool b] t)) w.heap.size k c s l m b := by
  constructor <;> first | go_simp | (rw [Go.RowKit.frozen?_alloc_cells]; simp [World.frozen?])
theorem BoxG.keep {w w' : World} {n : Nat} {k c s l m : Int} {b : Bool} (h : BoxG w n k c s l m b) (hb : w'.heap[n]? = w.heap[n]?) : BoxG w' n k c s l m b := by
  have r : ∀ i, w'.cell? ⟨n, i, none⟩ = w.cell? ⟨n, i, none⟩ := fun i => World.cell?_of_block (w := w) (w' := w') (a := ⟨n, i, none⟩) hb
  have q : ∀ i, w'.frozen? ⟨n, i, none⟩ = w.frozen? ⟨n, i, none⟩ := fun i => World.frozen?_of_block (w := w) (w' := w') (a := ⟨n, i, none⟩) hb
  exact ⟨(r 0).trans h.e0, (r 1).trans h.e1, (r 2).trans h.e2, (r 3).trans h.e3, (r 4).trans h.e4, (r 5).trans h.e5, (q 0).trans h.f0, (q 1).trans h.f1, (q 2).trans h.f2, (q 3).trans h.f3, (q 4).trans h.f4, (q 5).trans h.f5⟩
theorem BoxG.lt {w : World} {n : Nat} {k c s l m : Int} {b : Bool} (h : BoxG w n k c s l m b) : n < w.heap.size := cell_lt' h.e0

set_option maxRecDepth 100000 in
set_option maxHeartbeats 4000000 in
theorem grpOfSome_c (G o : Nat) (D : Option Nat) (ents : List Ent) (key : Int) (a : GS) (w : World) (h : GrpIs w G o D ents) (hk : I64 key) (ha : st ents key = some a) (hl : a.right.length < 1000000000) :
    Calls Tryz.prog 46 #[.pointer (some ⟨G, o, none⟩), .int .i64 key] w fun e w' => e = .returned (.tuple #[grpOf key a, .nilIface]) ∧ Ext w w' := by
  have hG := h.ltG
  have c0 := h.c0
  have f0 := h.f0
  obtain ⟨E, hfd, rfl⟩ := Option.map_eq_some_iff.1 ha
  clear ha
  have hE := h.all E (List.mem_of_find?_eq_some hfd)
  have hE0 := hE
  have hlk : ∀ (u : World), Ext w u → (Instr.lookup 67 (.map D) (.int .i64 key) false).run Tryz.prog u = .ok (.pointer (some ⟨E.S, 0, none⟩)) u := fun u hu => by
    rw [look_st h hk u hu, hfd]; rfl
  clear hfd h
  have hlq := hlk (w.alloc (.cells #[.int .i64 0, .int .i64 0, .int .i64 0, .int .i64 0, .int .i64 0, .bool false] 60)) ((ExtM.refl _).alloc _)
  clear hlk
  go_enter Tryz.func46, Tryz.ntmps46
  go_wp2_with fail
  have bN := BoxG.mk' w 0 0 0 0 0 false 60
  have x1 : Ext w (w.alloc (.cells #[.int .i64 0, .int .i64 0, .int .i64 0, .int .i64 0, .int .i64 0, .bool false] 60)) := (ExtM.refl _).alloc _
  replace hE := hE.keep (w' := w.alloc (.cells #[.int .i64 0, .int .i64 0, .int .i64 0, .int .i64 0, .int .i64 0, .bool false] 60)) (fun k hk => heap_alloc_lt (hE.lt k hk))
  have hSN : ¬ E.S = w.heap.size := fun e => by have := hE0.lt _ (.inl rfl : fb E E.S); omega
  clear hlq c0 f0
  generalize w.alloc (.cells #[.int .i64 0, .int .i64 0, .int .i64 0, .int .i64 0, .int .i64 0, .bool false] 60) = w1 at *
  have hlt := hE.cells.lt
  obtain ⟨c0, c1, c2, f0, f1, f2⟩ := hE.cells
  refine Plan.beginT Plan.Ext [11] 12 rfl (by kernel_rfl) ?_
  refine Plan.left_q 0 (by rfl) (by kernel_rfl) ?_; go_big_quiet_step (fail); refine wpQuiet_nil ?_
  refine Plan.left_q 1 (by rfl) (by kernel_rfl) ?_; go_big_quiet_step (fail); refine wpQuiet_nil ?_
  refine Plan.left_q 2 (by rfl) (by kernel_rfl) ?_; go_big_quiet_step (fail); refine wpQuiet_nil ?_
  refine Plan.left_q 3 (by rfl) (by kernel_rfl) ?_; go_big_quiet_step (fail); refine wpQuiet_nil ?_
  refine Plan.left_q 4 (by rfl) (by kernel_rfl) ?_; go_big_quiet_step (fail); refine wpQuiet_nil ?_
  refine Plan.left_q 5 (by rfl) (by kernel_rfl) ?_; go_big_quiet_step (fail); refine wpQuiet_nil ?_
  refine Plan.left_q 6 (by rfl) (by kernel_rfl) ?_; go_big_quiet_step (fail); refine wpQuiet_nil ?_
  refine Plan.left_q 7 (by rfl) (by kernel_rfl) ?_; go_big_quiet_step (fail); refine wpQuiet_nil ?_
  refine Plan.left_q 8 (by rfl) (by kernel_rfl) ?_; go_big_quiet_step (fail); refine wpQuiet_nil ?_
  refine Plan.left_q 9 (by rfl) (by kernel_rfl) ?_; go_big_quiet_step (fail); refine wpQuiet_nil ?_
  refine Plan.left_one 10 (by kernel_rfl) (by rfl) (Plan.plain rfl fun K hK => ?_)
  go_wp2_with (fail)
  refine hK _ _ ((ExtM.refl _).alloc _) ?_
  clear hK K
  refine Plan.left_one 11 (by kernel_rfl) (by rfl) (Plan.last rfl (by kernel_rfl) fun K hK => ?_)
  go_wp2_with (fail)
  refine Plan.left_done (by kernel_rfl) ?_
  clear c0 c1 c2 f0 f1 f2
  have bM : BoxG ((w1.alloc (.cells #[.int .i64 key, .int .i64 E.a.cnt, .int .i64 E.a.sum, .int .i64 0, .int .i64 0, .bool false] 60)).drew) w1.heap.size key E.a.cnt E.a.sum 0 0 false := (BoxG.mk' w1 key E.a.cnt E.a.sum 0 0 false 60).keep rfl
  have x2 : Ext w1 (w1.alloc (.cells #[.int .i64 key, .int .i64 E.a.cnt, .int .i64 E.a.sum, .int .i64 0, .int .i64 0, .bool false] 60)).drew := ((ExtM.refl _).alloc _).drew
  have hSM : ¬ E.S = w1.heap.size := by omega
  have hMw : w.heap.size ≤ w1.heap.size := x1.size
  have hNM : ¬ w.heap.size = w1.heap.size := by have := bN.lt; omega
  have hRN : ¬ E.v.ownBlock = some w.heap.size := fun e => by have := hE0.lt _ (.inr e); omega
  have hRM : ¬ E.v.ownBlock = some w1.heap.size := fun e => by have := hE.lt _ (.inr e); omega
  replace hE := hE.keep (fun k hk => x2.block k (hE.lt k hk) id)
  replace bN := bN.keep (x2.block _ bN.lt id)
  replace x1 := ExtM.trans _ _ _ x1 x2
  clear x2 hlt
  generalize (w1.alloc (.cells #[.int .i64 key, .int .i64 E.a.cnt, .int .i64 E.a.sum, .int .i64 0, .int .i64 0, .bool false] 60)).drew = w2 at *
  generalize w1.heap.size = M at *
  have hlt := hE.cells.lt
  obtain ⟨c0, c1, c2, f0, f1, f2⟩ := hE.cells
  obtain ⟨e0, e1, e2, e3, e4, e5, m0, m1, m2, m3, m4, m5⟩ := id bM
  obtain ⟨g0, g1, g2, g3, g4, g5, n0, n1, n2, n3, n4, n5⟩ := id bN
  have hMl := bM.lt
  have hNl := bN.lt
  rcases Nat.eq_zero_or_pos E.a.right.length with hz | hz
  · obtain ⟨p, cap, hv⟩ := hE.row.len
    rw [hv, hz] at c2
    have HZ := Lib.hid hz
    clear hv hz
    go_wp2_with fail
    have he : grpOf key E.a = grpV key E.a.cnt E.a.sum 0 0 false := by
      have hnil : E.a.right = [] := List.eq_nil_of_length_eq_zero HZ.out
      unfold grpOf; rw [hnil]; rfl
    rw [he]
    exact bodyPost_ret (v := .tuple #[grpV key E.a.cnt E.a.sum 0 0 false, .nilIface]) (by simp [grpV, results, Tryz.results46, go_sem, g0, g1, g2, g3, g4, g5]) rfl ⟨rfl, by
      iterate 6 (refine ExtM.setCell ?_ (.inl (Nat.le_refl _)) _)
      exact x1⟩
  · obtain ⟨g, cap, hv, hcap, hg, hcell⟩ := hE.row.at hz
    have r0 := hcell 0 hz
    have rl := hcell (E.a.right.length - 1) (by omega)
    have hgM : ¬ g = M := fun e => hRM (by rw [hv, e]; rfl)
    have hgN : ¬ g = w.heap.size := fun e => hRN (by rw [hv, e]; rfl)
    rw [hv] at c2
    clear hv hcell hRN hRM
    have hz1 : (0 : Int) < E.a.right.length := by omega
    have he : grpOf key E.a = grpV key E.a.cnt E.a.sum (E.a.right.getD 0 0) (E.a.right.getD (E.a.right.length - 1) 0) true := by
      unfold grpOf; rw [decide_eq_true hz]
    generalize E.a.right.getD 0 0 = lo at *
    generalize E.a.right.getD (E.a.right.length - 1) 0 = hi at *
    have HEE := Lib.hid he
    clear he
    go_wp2_with fail
    refine Plan.begin (Plan.ExtB M) 20 rfl (by kernel_rfl) ?_
    refine Plan.left_q 0 (by rfl) (by kernel_rfl) ?_; go_big_quiet_step (fail); refine wpQuiet_nil ?_
    refine Plan.left_q 1 (by rfl) (by kernel_rfl) ?_; go_big_quiet_step (fail); refine wpQuiet_nil ?_
    refine Plan.left_q 2 (by rfl) (by kernel_rfl) ?_; go_big_quiet_step (fail); refine wpQuiet_nil ?_
    refine Plan.left_q 3 (by rfl) (by kernel_rfl) ?_; go_big_quiet_step (fail); refine wpQuiet_nil ?_
    refine Plan.left_q 4 (by rfl) (by kernel_rfl) ?_; go_big_quiet_step (fail); refine wpQuiet_nil ?_
    refine Plan.left_q 5 (by rfl) (by kernel_rfl) ?_; go_big_quiet_step (fail); refine wpQuiet_nil ?_
    refine Plan.left_q 6 (by rfl) (by kernel_rfl) ?_; go_big_quiet_step (fail); refine wpQuiet_nil ?_
    refine Plan.left_q 7 (by rfl) (by kernel_rfl) ?_; go_big_quiet_step (fail); refine wpQuiet_nil ?_
    refine Plan.left_q 8 (by rfl) (by kernel_rfl) ?_; go_big_quiet_step (fail); refine wpQuiet_nil ?_
    refine Plan.left_q 9 (by rfl) (by kernel_rfl) ?_; go_big_quiet_step (fail); refine wpQuiet_nil ?_
    refine Plan.left_q 10 (by rfl) (by kernel_rfl) ?_; go_big_quiet_step (fail); refine wpQuiet_nil ?_
    refine Plan.left_q 11 (by rfl) (by kernel_rfl) ?_; go_big_quiet_step (fail); refine wpQuiet_nil ?_
    refine Plan.left_q 12 (by rfl) (by kernel_rfl) ?_; go_big_quiet_step (fail); refine wpQuiet_nil ?_
    refine Plan.left_q 13 (by rfl) (by kernel_rfl) ?_; go_big_quiet_step (fail); refine wpQuiet_nil ?_
    refine Plan.left_q 14 (by rfl) (by kernel_rfl) ?_; go_big_quiet_step (fail); refine wpQuiet_nil ?_
    refine Plan.left_one 15 (by kernel_rfl) (by rfl) (Plan.plain rfl fun K hK => ?_)
    go_wp2_with (fail)
    refine hK _ _ (ExtB.set 3 _) ?_
    clear hK K
    refine Plan.left_q 16 (by rfl) (by kernel_rfl) ?_; go_big_quiet_step (fail); refine wpQuiet_nil ?_
    refine Plan.left_one 17 (by kernel_rfl) (by rfl) (Plan.plain rfl fun K hK => ?_)
    go_wp2_with (fail)
    refine hK _ _ (ExtB.set 4 _) ?_
    clear hK K
    refine Plan.left_q 18 (by rfl) (by kernel_rfl) ?_; go_big_quiet_step (fail); refine wpQuiet_nil ?_
    refine Plan.left_one 19 (by kernel_rfl) (by rfl) (Plan.plain rfl fun K hK => ?_)
    go_wp2_with (fail)
    refine hK _ _ (ExtB.set 5 _) ?_
    clear hK K
    refine Plan.left_done (by kernel_rfl) ?_
    go_wp2_with fail
    rw [HEE.out]
    exact bodyPost_ret (v := .tuple #[grpV key E.a.cnt E.a.sum lo hi true, .nilIface]) (by simp [grpV, results, Tryz.results46, go_sem, g0, g1, g2, g3, g4, g5]) rfl ⟨rfl, by
      refine ExtM.drew ?_
      iterate 6 (refine ExtM.setCell ?_ (.inl (Nat.le_refl _)) _)
      iterate 3 (refine ExtM.setCell ?_ (.inl hMw) _)
      exact x1⟩
end Go.Proofs.YtmcgnnmffeojpaaGreatDoor
