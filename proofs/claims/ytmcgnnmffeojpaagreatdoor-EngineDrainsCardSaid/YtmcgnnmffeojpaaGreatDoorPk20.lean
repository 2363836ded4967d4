/- What '(*Groups).All' computes. -/
import Derived.Test.YtmcgnnmffeojpaaGreatDoorPk18
import Derived.Test.YtmcgnnmffeojpaaGreatDoorPk19
import Derived.Maps.AppendAt
import Derived.OwnWalk
import Derived.Maps.Range
import Derived.Carry
/- What '(*Groups).Of' computes. -/
namespace Go.Proofs.YtmcgnnmffeojpaaGreatDoor
open Go.RowKit Go.Plan

/-- A group as a value. -/
def grpV (key cnt sum least most : Int) (some : Bool) : Value := .agg #[.int .i64 key, .int .i64 cnt, .int .i64 sum, .int .i64 least, .int .i64 most, .bool some]
/-- What is told of a key that comes to a. -/
def grpOf (key : Int) (a : GS) : Value := grpV key a.cnt a.sum (a.right.getD 0 0) (a.right.getD (a.right.length - 1) 0) (decide (0 < a.right.length))

/-- What a lookup of a key finds. -/
theorem look_st {w : World} {G o : Nat} {D : Option Nat} {ents : List Ent} (h : GrpIs w G o D ents) {key : Int} (hk : I64 key) (u : World) (hu : Ext w u) :
    (Instr.lookup 67 (.map D) (.int .i64 key) false).run Tryz.prog u = .ok (.pointer ((ents.find? (fun e => decide (e.key = key))).map fun e => ⟨e.S, 0, none⟩)) u := by
  rcases h.mp with ⟨rfl, rfl⟩ | ⟨d, rfl, hdG, hm⟩
  · obtain ⟨l, hl⟩ := keyI key hk
    have hf : (Instr.findKey 3 (.int .i64 key) []).run Tryz.prog u = .ok none u := by
      rcases intLaw.find u hl [] (by simp) with ⟨h, -⟩ | ⟨j, e, -, h, -⟩
      · exact h
      · simp at h
    simp [Instr.lookup, run_underlying Tryz.underlying67, intLaw.check u _ hl, hf, Result.andThen]
  · have := (hm.of hu id).run_look false intLaw intI_inj Tryz.underlying67 zeroPtr key (keyI _ hk)
    rw [look_prs] at this
    cases hfd : ents.find? (fun e => decide (e.key = key)) <;> rw [hfd] at this <;> simpa using this

theorem IRow.at {w : World} {v : Value} {xs : List Int} (h : IRow w v xs) (h0 : 0 < xs.length) : ∃ g cap, v = .slice (some ⟨g, 0, none⟩) xs.length cap ∧ xs.length ≤ cap ∧ g < w.heap.size ∧ ∀ j, j < xs.length → w.cell? ⟨g, j, none⟩ = some (.int .i64 (xs.getD j 0)) := by
  rcases h with ⟨rfl, rfl⟩ | ⟨g, cap, f, rfl, h1, h2, h3, h4, h5⟩
  · simp at h0
  · exact ⟨g, cap, rfl, h2, h1.lt, fun j hj => by rw [h1.cell (by omega), h5 j hj]⟩

set_option maxRecDepth 100000 in
set_option maxHeartbeats 4000000 in
theorem grpOfNone_c (G o : Nat) (D : Option Nat) (ents : List Ent) (key : Int) (w : World) (h : GrpIs w G o D ents) (hk : I64 key) (ha : st ents key = none) :
    Calls Tryz.prog 46 #[.pointer (some ⟨G, o, none⟩), .int .i64 key] w fun e w' => e = .returned (.tuple #[grpV 0 0 0 0 0 false, .iface 48 (.int .i64 8)]) ∧ Ext w w' := by
  have hG := h.ltG
  have c0 := h.c0
  have f0 := h.f0
  have hlk : ∀ (u : World), Ext w u → (Instr.lookup 67 (.map D) (.int .i64 key) false).run Tryz.prog u = .ok (.pointer none) u := fun u hu => by
    rw [look_st h hk u hu]
    have : ents.find? (fun e => decide (e.key = key)) = none := by simpa [st] using ha
    rw [this]; rfl
  clear ha h
  have hlq := hlk (w.alloc (.cells #[.int .i64 0, .int .i64 0, .int .i64 0, .int .i64 0, .int .i64 0, .bool false] 60)) ((ExtM.refl _).alloc _)
  clear hlk
  go_enter Tryz.func46, Tryz.ntmps46
  go_wp2_with fail
  exact bodyPost_ret (v := .tuple #[grpV 0 0 0 0 0 false, .iface 48 (.int .i64 8)]) (by simp [grpV, results, Tryz.results46, go_sem]) rfl ⟨rfl, (ExtM.refl _).alloc _⟩

/-- A group's cells in a block of its own. -/
structure BoxG (w : World) (n : Nat) (k c s l m : Int) (b : Bool) : Prop where
  e0 : w.cell? ⟨n, 0, none⟩ = some (.int .i64 k)
  e1 : w.cell? ⟨n, 1, none⟩ = some (.int .i64 c)
  e2 : w.cell? ⟨n, 2, none⟩ = some (.int .i64 s)
  e3 : w.cell? ⟨n, 3, none⟩ = some (.int .i64 l)
  e4 : w.cell? ⟨n, 4, none⟩ = some (.int .i64 m)
  e5 : w.cell? ⟨n, 5, none⟩ = some (.bool b)
  f0 : w.frozen? ⟨n, 0, none⟩ = false
  f1 : w.frozen? ⟨n, 1, none⟩ = false
  f2 : w.frozen? ⟨n, 2, none⟩ = false
  f3 : w.frozen? ⟨n, 3, none⟩ = false
  f4 : w.frozen? ⟨n, 4, none⟩ = false
  f5 : w.frozen? ⟨n, 5, none⟩ = false
theorem BoxG.mk' (w : World) (k c s l m : Int) (b : Bool) (t : TypeId) : BoxG (w.alloc (.cells #[.int .i64 k, .int .i64 c, .int .i64 s, .int .i64 l, .int .i64 m, .bool b] t)) w.heap.size k c s l m b := by
  constructor <;> first | go_simp | (rw [Go.RowKit.frozen?_alloc_cells]; simp [World.frozen?])
theorem BoxG.keep {w w' : World} {n : Nat} {k c s l m : Int} {b : Bool} (h : BoxG w n k c s l m b) (hb : w'.heap[n]? = w.heap[n]?) : BoxG w' n k c s l m b := by
  have r : ∀ i, w'.cell? ⟨n, i, none⟩ = w.cell? ⟨n, i, none⟩ := fun i => World.cell?_of_block (w := w) (w' := w') (a := ⟨n, i, none⟩) hb
  have q : ∀ i, w'.frozen? ⟨n, i, none⟩ = w.frozen? ⟨n, i, none⟩ := fun i => World.frozen?_of_block (w := w) (w' := w') (a := ⟨n, i, none⟩) hb
  exact ⟨(r 0).trans h.e0, (r 1).trans h.e1, (r 2).trans h.e2, (r 3).trans h.e3, (r 4).trans h.e4, (r 5).trans h.e5, (q 0).trans h.f0, (q 1).trans h.f1, (q 2).trans h.f2, (q 3).trans h.f3, (q 4).trans h.f4, (q 5).trans h.f5⟩
theorem BoxG.lt {w : World} {n : Nat} {k c s l m : Int} {b : Bool} (h : BoxG w n k c s l m b) : n < w.heap.size := cell_lt' h.e0

set_option maxRecDepth 100000 in
set_option maxHeartbeats 4000000 in
theorem grpOfSome_c (G o : Nat) (D : Option Nat) (ents : List Ent) (key : Int) (a : GS) (w : World) (h : GrpIs w G o D ents) (hk : I64 key) (ha : st ents key = some a) (hl : a.right.length < 1000000000) :
    Calls Tryz.prog 46 #[.pointer (some ⟨G, o, none⟩), .int .i64 key] w fun e w' => e = .returned (.tuple #[grpOf key a, .nilIface]) ∧ Ext w w' := by
  have hG := h.ltG
  have c0 := h.c0
  have f0 := h.f0
  obtain ⟨E, hfd, rfl⟩ := Option.map_eq_some_iff.1 ha
  clear ha
  have hE := h.all E (List.mem_of_find?_eq_some hfd)
  have hE0 := hE
  have hlk : ∀ (u : World), Ext w u → (Instr.lookup 67 (.map D) (.int .i64 key) false).run Tryz.prog u = .ok (.pointer (some ⟨E.S, 0, none⟩)) u := fun u hu => by
    rw [look_st h hk u hu, hfd]; rfl
  clear hfd h
  have hlq := hlk (w.alloc (.cells #[.int .i64 0, .int .i64 0, .int .i64 0, .int .i64 0, .int .i64 0, .bool false] 60)) ((ExtM.refl _).alloc _)
  clear hlk
  go_enter Tryz.func46, Tryz.ntmps46
  go_wp2_with fail
  have bN := BoxG.mk' w 0 0 0 0 0 false 60
  have x1 : Ext w (w.alloc (.cells #[.int .i64 0, .int .i64 0, .int .i64 0, .int .i64 0, .int .i64 0, .bool false] 60)) := (ExtM.refl _).alloc _
  replace hE := hE.keep (w' := w.alloc (.cells #[.int .i64 0, .int .i64 0, .int .i64 0, .int .i64 0, .int .i64 0, .bool false] 60)) (fun k hk => heap_alloc_lt (hE.lt k hk))
  have hSN : ¬ E.S = w.heap.size := fun e => by have := hE0.lt _ (.inl rfl : fb E E.S); omega
  clear hlq c0 f0
  generalize w.alloc (.cells #[.int .i64 0, .int .i64 0, .int .i64 0, .int .i64 0, .int .i64 0, .bool false] 60) = w1 at *
  have hlt := hE.cells.lt
  obtain ⟨c0, c1, c2, f0, f1, f2⟩ := hE.cells
  refine Plan.beginT Plan.Ext [11] 12 rfl (by kernel_rfl) ?_
  refine Plan.left_q 0 (by rfl) (by kernel_rfl) ?_; go_big_quiet_step (fail); refine wpQuiet_nil ?_
  refine Plan.left_q 1 (by rfl) (by kernel_rfl) ?_; go_big_quiet_step (fail); refine wpQuiet_nil ?_
  refine Plan.left_q 2 (by rfl) (by kernel_rfl) ?_; go_big_quiet_step (fail); refine wpQuiet_nil ?_
  refine Plan.left_q 3 (by rfl) (by kernel_rfl) ?_; go_big_quiet_step (fail); refine wpQuiet_nil ?_
  refine Plan.left_q 4 (by rfl) (by kernel_rfl) ?_; go_big_quiet_step (fail); refine wpQuiet_nil ?_
  refine Plan.left_q 5 (by rfl) (by kernel_rfl) ?_; go_big_quiet_step (fail); refine wpQuiet_nil ?_
  refine Plan.left_q 6 (by rfl) (by kernel_rfl) ?_; go_big_quiet_step (fail); refine wpQuiet_nil ?_
  refine Plan.left_q 7 (by rfl) (by kernel_rfl) ?_; go_big_quiet_step (fail); refine wpQuiet_nil ?_
  refine Plan.left_q 8 (by rfl) (by kernel_rfl) ?_; go_big_quiet_step (fail); refine wpQuiet_nil ?_
  refine Plan.left_q 9 (by rfl) (by kernel_rfl) ?_; go_big_quiet_step (fail); refine wpQuiet_nil ?_
  refine Plan.left_one 10 (by kernel_rfl) (by rfl) (Plan.plain rfl fun K hK => ?_)
  go_wp2_with (fail)
  refine hK _ _ ((ExtM.refl _).alloc _) ?_
  clear hK K
  refine Plan.left_one 11 (by kernel_rfl) (by rfl) (Plan.last rfl (by kernel_rfl) fun K hK => ?_)
  go_wp2_with (fail)
  refine Plan.left_done (by kernel_rfl) ?_
  clear c0 c1 c2 f0 f1 f2
  have bM : BoxG ((w1.alloc (.cells #[.int .i64 key, .int .i64 E.a.cnt, .int .i64 E.a.sum, .int .i64 0, .int .i64 0, .bool false] 60)).drew) w1.heap.size key E.a.cnt E.a.sum 0 0 false := (BoxG.mk' w1 key E.a.cnt E.a.sum 0 0 false 60).keep rfl
  have x2 : Ext w1 (w1.alloc (.cells #[.int .i64 key, .int .i64 E.a.cnt, .int .i64 E.a.sum, .int .i64 0, .int .i64 0, .bool false] 60)).drew := ((ExtM.refl _).alloc _).drew
  have hSM : ¬ E.S = w1.heap.size := by omega
  have hMw : w.heap.size ≤ w1.heap.size := x1.size
  have hNM : ¬ w.heap.size = w1.heap.size := by have := bN.lt; omega
  have hRN : ¬ E.v.ownBlock = some w.heap.size := fun e => by have := hE0.lt _ (.inr e); omega
  have hRM : ¬ E.v.ownBlock = some w1.heap.size := fun e => by have := hE.lt _ (.inr e); omega
  replace hE := hE.keep (fun k hk => x2.block k (hE.lt k hk) id)
  replace bN := bN.keep (x2.block _ bN.lt id)
  replace x1 := ExtM.trans _ _ _ x1 x2
  clear x2 hlt
  generalize (w1.alloc (.cells #[.int .i64 key, .int .i64 E.a.cnt, .int .i64 E.a.sum, .int .i64 0, .int .i64 0, .bool false] 60)).drew = w2 at *
  generalize w1.heap.size = M at *
  have hlt := hE.cells.lt
  obtain ⟨c0, c1, c2, f0, f1, f2⟩ := hE.cells
  obtain ⟨e0, e1, e2, e3, e4, e5, m0, m1, m2, m3, m4, m5⟩ := id bM
  obtain ⟨g0, g1, g2, g3, g4, g5, n0, n1, n2, n3, n4, n5⟩ := id bN
  have hMl := bM.lt
  have hNl := bN.lt
  rcases Nat.eq_zero_or_pos E.a.right.length with hz | hz
  · obtain ⟨p, cap, hv⟩ := hE.row.len
    rw [hv, hz] at c2
    have HZ := Lib.hid hz
    clear hv hz
    go_wp2_with fail
    have he : grpOf key E.a = grpV key E.a.cnt E.a.sum 0 0 false := by
      have hnil : E.a.right = [] := List.eq_nil_of_length_eq_zero HZ.out
      unfold grpOf; rw [hnil]; rfl
    rw [he]
    exact bodyPost_ret (v := .tuple #[grpV key E.a.cnt E.a.sum 0 0 false, .nilIface]) (by simp [grpV, results, Tryz.results46, go_sem, g0, g1, g2, g3, g4, g5]) rfl ⟨rfl, by
      iterate 6 (refine ExtM.setCell ?_ (.inl (Nat.le_refl _)) _)
      exact x1⟩
  · obtain ⟨g, cap, hv, hcap, hg, hcell⟩ := hE.row.at hz
    have r0 := hcell 0 hz
    have rl := hcell (E.a.right.length - 1) (by omega)
    have hgM : ¬ g = M := fun e => hRM (by rw [hv, e]; rfl)
    have hgN : ¬ g = w.heap.size := fun e => hRN (by rw [hv, e]; rfl)
    rw [hv] at c2
    clear hv hcell hRN hRM
    have hz1 : (0 : Int) < E.a.right.length := by omega
    have he : grpOf key E.a = grpV key E.a.cnt E.a.sum (E.a.right.getD 0 0) (E.a.right.getD (E.a.right.length - 1) 0) true := by
      unfold grpOf; rw [decide_eq_true hz]
    generalize E.a.right.getD 0 0 = lo at *
    generalize E.a.right.getD (E.a.right.length - 1) 0 = hi at *
    have HEE := Lib.hid he
    clear he
    go_wp2_with fail
    refine Plan.begin (Plan.ExtB M) 20 rfl (by kernel_rfl) ?_
    refine Plan.left_q 0 (by rfl) (by kernel_rfl) ?_; go_big_quiet_step (fail); refine wpQuiet_nil ?_
    refine Plan.left_q 1 (by rfl) (by kernel_rfl) ?_; go_big_quiet_step (fail); refine wpQuiet_nil ?_
    refine Plan.left_q 2 (by rfl) (by kernel_rfl) ?_; go_big_quiet_step (fail); refine wpQuiet_nil ?_
    refine Plan.left_q 3 (by rfl) (by kernel_rfl) ?_; go_big_quiet_step (fail); refine wpQuiet_nil ?_
    refine Plan.left_q 4 (by rfl) (by kernel_rfl) ?_; go_big_quiet_step (fail); refine wpQuiet_nil ?_
    refine Plan.left_q 5 (by rfl) (by kernel_rfl) ?_; go_big_quiet_step (fail); refine wpQuiet_nil ?_
    refine Plan.left_q 6 (by rfl) (by kernel_rfl) ?_; go_big_quiet_step (fail); refine wpQuiet_nil ?_
    refine Plan.left_q 7 (by rfl) (by kernel_rfl) ?_; go_big_quiet_step (fail); refine wpQuiet_nil ?_
    refine Plan.left_q 8 (by rfl) (by kernel_rfl) ?_; go_big_quiet_step (fail); refine wpQuiet_nil ?_
    refine Plan.left_q 9 (by rfl) (by kernel_rfl) ?_; go_big_quiet_step (fail); refine wpQuiet_nil ?_
    refine Plan.left_q 10 (by rfl) (by kernel_rfl) ?_; go_big_quiet_step (fail); refine wpQuiet_nil ?_
    refine Plan.left_q 11 (by rfl) (by kernel_rfl) ?_; go_big_quiet_step (fail); refine wpQuiet_nil ?_
    refine Plan.left_q 12 (by rfl) (by kernel_rfl) ?_; go_big_quiet_step (fail); refine wpQuiet_nil ?_
    refine Plan.left_q 13 (by rfl) (by kernel_rfl) ?_; go_big_quiet_step (fail); refine wpQuiet_nil ?_
    refine Plan.left_q 14 (by rfl) (by kernel_rfl) ?_; go_big_quiet_step (fail); refine wpQuiet_nil ?_
    refine Plan.left_one 15 (by kernel_rfl) (by rfl) (Plan.plain rfl fun K hK => ?_)
    go_wp2_with (fail)
    refine hK _ _ (ExtB.set 3 _) ?_
    clear hK K
    refine Plan.left_q 16 (by rfl) (by kernel_rfl) ?_; go_big_quiet_step (fail); refine wpQuiet_nil ?_
    refine Plan.left_one 17 (by kernel_rfl) (by rfl) (Plan.plain rfl fun K hK => ?_)
    go_wp2_with (fail)
    refine hK _ _ (ExtB.set 4 _) ?_
    clear hK K
    refine Plan.left_q 18 (by rfl) (by kernel_rfl) ?_; go_big_quiet_step (fail); refine wpQuiet_nil ?_
    refine Plan.left_one 19 (by kernel_rfl) (by rfl) (Plan.plain rfl fun K hK => ?_)
    go_wp2_with (fail)
    refine hK _ _ (ExtB.set 5 _) ?_
    clear hK K
    refine Plan.left_done (by kernel_rfl) ?_
    go_wp2_with fail
    rw [HEE.out]
    exact bodyPost_ret (v := .tuple #[grpV key E.a.cnt E.a.sum lo hi true, .nilIface]) (by simp [grpV, results, Tryz.results46, go_sem, g0, g1, g2, g3, g4, g5]) rfl ⟨rfl, by
      refine ExtM.drew ?_
      iterate 6 (refine ExtM.setCell ?_ (.inl (Nat.le_refl _)) _)
      iterate 3 (refine ExtM.setCell ?_ (.inl hMw) _)
      exact x1⟩
end Go.Proofs.YtmcgnnmffeojpaaGreatDoor
namespace Go.Proofs.YtmcgnnmffeojpaaGreatDoor
open Go.RowKit Go.Plan Go.Shelf

/-- A group. -/
structure GRow where
  key : Int
  cnt : Int
  sum : Int
  least : Int
  most : Int
  some : Bool
def GRow.cells (r : GRow) : List Value := [.int .i64 r.key, .int .i64 r.cnt, .int .i64 r.sum, .int .i64 r.least, .int .i64 r.most, .bool r.some]
theorem gcells_one (x : GRow) : ∀ v ∈ x.cells, v.oneCell' = true := by
  intro v hv
  simp only [GRow.cells, List.mem_cons, List.not_mem_nil, or_false] at hv
  rcases hv with rfl | rfl | rfl | rfl | rfl | rfl <;> rfl
def rowOf (key : Int) (a : GS) : GRow := ⟨key, a.cnt, a.sum, a.right.getD 0 0, a.right.getD (a.right.length - 1) 0, decide (0 < a.right.length)⟩
theorem grpOf_val (key : Int) (a : GS) : grpOf key a = .agg #[.int .i64 (rowOf key a).key, .int .i64 (rowOf key a).cnt, .int .i64 (rowOf key a).sum, .int .i64 (rowOf key a).least, .int .i64 (rowOf key a).most, .bool (rowOf key a).some] := rfl
/-- All groups, by their keys. -/
def allG (ents : List Ent) : List GRow := (sortI (ents.map (·.key))).map fun k => rowOf k ((st ents k).getD ⟨0, 0, []⟩)

/-- A group's cells at ⟨b, a⟩. -/
structure ElemG (w : World) (b a : Nat) (x : GRow) : Prop where
  e0 : w.cell? ⟨b, a, none⟩ = some (.int .i64 x.key)
  e1 : w.cell? ⟨b, a + 1, none⟩ = some (.int .i64 x.cnt)
  e2 : w.cell? ⟨b, a + 2, none⟩ = some (.int .i64 x.sum)
  e3 : w.cell? ⟨b, a + 3, none⟩ = some (.int .i64 x.least)
  e4 : w.cell? ⟨b, a + 4, none⟩ = some (.int .i64 x.most)
  e5 : w.cell? ⟨b, a + 5, none⟩ = some (.bool x.some)
theorem ElemG.of {w w' : World} {b a : Nat} {x : GRow} (h : ElemG w b a x) (hx : Ext w w') : ElemG w' b a x := by
  have hl : b < w.heap.size := cell_lt' h.e0
  have r : ∀ i, w'.cell? ⟨b, i, none⟩ = w.cell? ⟨b, i, none⟩ := fun i => hx.cell (p := ⟨b, i, none⟩) hl id
  exact ⟨(r _).trans h.e0, (r _).trans h.e1, (r _).trans h.e2, (r _).trans h.e3, (r _).trans h.e4, (r _).trans h.e5⟩
theorem ElemG.lt {w : World} {b a : Nat} {x : GRow} (h : ElemG w b a x) : b < w.heap.size := cell_lt' h.e0
/-- A result holds these. -/
def GrpsOf (w : World) (p : Option Addr) (l : List GRow) : Prop := l = [] ∨ ∃ b, p = some ⟨b, 0, none⟩ ∧ ∀ i (hi : i < l.length), ElemG w b (i * 6) (l[i]'hi)
theorem GrpsOf.of {w w' : World} {p : Option Addr} {l : List GRow} (h : GrpsOf w p l) (hx : Ext w w') : GrpsOf w' p l := by
  rcases h with h | ⟨b, h1, h2⟩
  · exact .inl h
  · exact .inr ⟨b, h1, fun i hi => (h2 i hi).of hx⟩

theorem gcells_get (l : List GRow) (i c : Nat) (hi : i < l.length) (hc : c < 6) : (l.flatMap GRow.cells)[i * 6 + c]? = (l[i]'hi).cells[c]? := by
  induction l generalizing i with
  | nil => simp at hi
  | cons x r ih =>
    rw [List.flatMap_cons]
    have hx : x.cells.length = 6 := rfl
    cases i with
    | zero => rw [List.getElem?_append_left (by rw [hx]; omega)]; simp
    | succ i =>
      rw [List.getElem?_append_right (by rw [hx]; omega), hx]
      have := ih i (by simpa using hi)
      rw [show (i + 1) * 6 + c - 6 = i * 6 + c by omega, this]
      simp
theorem GrpsOf.own {w : World} {base n : Nat} {e : TypeId} {v : Value} {l : List GRow} (h : w.ownsRow base e 6 v n (l.flatMap GRow.cells)) (hn : n = l.length) : ∃ p cap, v = .slice p l.length cap ∧ GrpsOf w p l := by
  subst hn
  obtain ⟨hl, hr⟩ := h
  rcases hr with ⟨rfl, h0⟩ | ⟨g, cap, cur, rfl, hbase, hb, h1, h2, h3, h4⟩
  · exact ⟨none, 0, by rw [h0], .inl (List.eq_nil_of_length_eq_zero h0)⟩
  · refine ⟨_, cap, rfl, .inr ⟨g, rfl, fun i hi => ?_⟩⟩
    have r : ∀ c, c < 6 → w.cell? ⟨g, i * 6 + c, none⟩ = (l[i]'hi).cells[c]? := fun c hc => by
      have e1 := gcells_get l i c hi hc
      rw [← h4, List.getElem?_take_of_lt (by omega), Array.getElem?_toList] at e1
      simpa [World.cell?, hb] using e1
    exact ⟨r 0 (by omega), r 1 (by omega), r 2 (by omega), r 3 (by omega), r 4 (by omega), r 5 (by omega)⟩

theorem infoGrp : (Tryz.prog.info? 60).map (fun i => (i.zero, i.size, i.bytes)) = some (some (grpV 0 0 0 0 0 false), 6, 48) := by kernel_rfl

/-- 'append(v, x)' of one group. -/
theorem run_appendG (W : World) (base nb c : Nat) (v : Value) (acc : List GRow) (x : GRow) (ty : TypeId) (hown : W.ownsRow base 60 6 v acc.length (acc.flatMap GRow.cells))
    (hx : ElemG W nb 0 x) (hl : acc.length < 1000000000) (hb : base ≤ W.heap.size) :
    ∃ v' w', (Builtin.append_ #[53, 53] ty #[v, .slice (some ⟨nb, 0, none⟩) 1 c]).run Tryz.prog W = .ok v' w' ∧ w'.ownsRow base 60 6 v' (acc ++ [x]).length ((acc ++ [x]).flatMap GRow.cells) ∧ W.grownBy w' v.ownBlock ∧
      (v'.ownBlock = v.ownBlock ∨ v'.ownBlock = some W.heap.size) := by
  obtain ⟨i0, hi, hz0, hz1, hz2⟩ := info_parts infoGrp
  obtain ⟨v', w', h1, h2, h3, -, h5⟩ := run_append_own_at (P := Tryz.prog) W base 53 ty 60 i0 (grpV 0 0 0 0 0 false) 6 48 Tryz.underlying53 hi hz0 hz1 hz2 rfl (by decide) v acc.length _ hown ⟨nb, 0, none⟩ 1 c x.cells rfl
    (fun j u hj => by
      have hj' : j < 6 := (List.getElem?_eq_some_iff.1 hj).1
      have e1 : (⟨nb, 0, none⟩ : Addr).add j = ⟨nb, j, none⟩ := by unfold Addr.add; split <;> simp_all
      rw [e1, ← hj]
      match j, hj' with
      | 0, _ => exact hx.e0
      | 1, _ => exact hx.e1
      | 2, _ => exact hx.e2
      | 3, _ => exact hx.e3
      | 4, _ => exact hx.e4
      | 5, _ => exact hx.e5) (gcells_one x) (by unfold maxLen; omega) (by omega) hb
  refine ⟨v', w', h1, ?_, h3, h5⟩
  rw [List.flatMap_append, List.length_append]
  simpa using h2
theorem ElemG.mk' (w : World) (x : GRow) (t : TypeId) : ElemG (w.alloc (.cells #[.int .i64 x.key, .int .i64 x.cnt, .int .i64 x.sum, .int .i64 x.least, .int .i64 x.most, .bool x.some] t)) w.heap.size 0 x := by
  constructor <;> go_simp

/-- Groups as a result. -/
def GrpsV (w : World) (l : List GRow) (e : Ending) (w' : World) : Prop := ∃ p cap, e = .returned (.slice p l.length cap) ∧ Ext w w' ∧ GrpsOf w' p l

theorem rangeLeftI {w : World} {D R : Nat} {m left : List (Int × Value)} (h : RangeIs Tryz.prog 3 (Value.int .i64) w D R m left) : w.rangeLeft D R = left.length := by
  obtain ⟨es, clock, seen, h1, h2, h3, h4, h5⟩ := h.ex
  have := congrArg List.length h5
  simp only [List.length_map, Array.length_toList] at this
  simp only [World.rangeLeft, h1, h4]
  rw [← this]
theorem ext_ofNI {w w1 w2 : World} {N : Nat} (hN : w.heap.size = N) (h : Ext w w1) (hb : ExtB N w1 w2) : Ext w w2 :=
  ⟨hb.os.trans h.os, hb.tape.trans h.tape, hb.output.trans h.output, Nat.le_trans h.size hb.size, fun k hk hn => (hb.block k (Nat.lt_of_lt_of_le hk h.size) (fun e => by have e' : k = N := e; omega)).trans (h.block k hk hn)⟩
theorem st_key {ents : List Ent} {k : Int} (h : k ∈ ents.map (·.key)) : ∃ E ∈ ents, E.key = k ∧ st ents k = some E.a := by
  unfold st
  cases hf : ents.find? (fun e => decide (e.key = k)) with
  | none =>
    obtain ⟨e, he, hk⟩ := List.mem_map.1 h
    have := List.find?_eq_none.1 hf e he
    simp at this; exact absurd hk this
  | some E => exact ⟨E, List.mem_of_find?_eq_some hf, by simpa using List.find?_some hf, rfl⟩

/-- The second loop: each key's group is told. -/
def Told (w wr : World) (p : Option Addr) (ks : List Int) (rows : List GRow) (M : Nat) (j : Nat) (v : Value) : Prop :=
  Ext w wr ∧ IntsIn wr p ks ∧ wr.ownsRow M 60 6 v (rows.take j).length ((rows.take j).flatMap GRow.cells) ∧ M ≤ wr.heap.size ∧ w.heap.size ≤ M ∧ ∀ g, p = some ⟨g, 0, none⟩ → ks = [] ∨ g < M

set_option maxRecDepth 100000 in
set_option maxHeartbeats 4000000 in
theorem grpAll_c (G o d : Nat) (ents : List Ent) (w : World) (h : GrpIs w G o (some d) ents) (hl : ents.length < 1000000) (hr : ∀ e ∈ ents, e.a.right.length < 1000000000) :
    Calls Tryz.prog 22 #[.pointer (some ⟨G, o, none⟩)] w (GrpsV w (allG ents)) := by
  have hm : MapIs Tryz.prog 3 (Value.int .i64) w d (prs ents) := by
    rcases h.mp with ⟨h1, -⟩ | ⟨d', h1, h2, h3⟩
    · cases h1
    · obtain rfl := Option.some.inj h1; exact h3
  have hG := h.ltG
  have hdw := hm.lt
  have c0 := h.c0
  have f0 := h.f0
  obtain ⟨ob, hrun, hrg⟩ := hm.run_range Tryz.underlying67
  go_enter Tryz.func22, Tryz.ntmps22
  go_wp2_with fail
  have x0 : Ext w (w.alloc ob) := (ExtM.refl _).alloc _
  have z0 : w.heap.size < (w.alloc ob).heap.size := by rw [World.size_alloc]; omega
  clear hrun c0 f0
  generalize w.alloc ob = w0 at *
  obtain ⟨N, hN⟩ : ∃ N, w.heap.size = N := ⟨_, rfl⟩
  rw [hN] at hrg z0 ⊢
  have HN := Lib.hid hN
  clear hN
  go_loopw [3] (fun v wr => ∃ (left : List (Int × Value)) (acc : List Int), RangeIs Tryz.prog 3 (Value.int .i64) wr d N (prs ents) left ∧ wr.ownsRow (N + 1) 3 1 v acc.length (acc.map (Value.int .i64)) ∧ (acc ++ left.map (·.1)).Perm (ents.map (·.key)) ∧ Ext w wr) (fun _ wr => wr.rangeLeft d N)
  case atStart => exact ⟨prs ents, [], hrg, ⟨rfl, .inl ⟨rfl, rfl⟩⟩, by simp [prs, List.map_map, Function.comp_def], x0⟩
  case round =>
    clear hrg x0 z0
    obtain ⟨left, acc, hrg, hown, hp, hx⟩ := hrel
    have hal : acc.length ≤ ents.length := by
      have h1 := hp.length_eq
      rw [List.length_append, List.length_map, List.length_map] at h1
      omega
    rcases hrg.run_next 0 with ⟨rfl, hn⟩ | ⟨p, left', w1, hpm, hn, x1, z1, hrg1, hen⟩
    · have hp2 : acc.Perm (ents.map (·.key)) := by simpa using hp
      go_wp2_with fail
      refine (sortI_c (N + 1) u3 acc wr hown (by omega)).mono ?_
      rintro e w2 ⟨rfl, xr, p, cap, rfl, hks⟩
      have hN := HN.out
      have hx2 : Ext w w2 := ⟨xr.os.trans hx.os, xr.tape.trans hx.tape, xr.output.trans hx.output, Nat.le_trans hx.size xr.size, fun k hk _ => (xr.block k (Nat.lt_of_lt_of_le hk hx.size) (fun e => by
          rcases hown.2 with ⟨h1, -⟩ | ⟨g, cap', cur, h1, hbase, -⟩
          · rw [h1] at e; cases e
          · rw [h1] at e
            have := Option.some.inj e
            simp at this
            omega)).trans (hx.block k hk id)⟩
      have hkl : (sortI acc).length = acc.length := sortI_length acc
      obtain ⟨ks, hke⟩ : ∃ ks, sortI acc = ks := ⟨_, rfl⟩
      have hke2 : sortI (ents.map (·.key)) = ks := by rw [← hke]; exact sortI_of_perm hp2.symm
      have hmem : ∀ k ∈ ks, k ∈ ents.map (·.key) := fun k hk => hp2.mem_iff.1 ((sortI_perm acc).mem_iff.1 (hke ▸ hk))
      rw [hke] at hks hkl
      obtain ⟨rows, hrw⟩ : ∃ rows, allG ents = rows := ⟨_, rfl⟩
      have hrows : rows = ks.map fun k => rowOf k ((st ents k).getD ⟨0, 0, []⟩) := by rw [← hrw]; unfold allG; rw [hke2]
      have hrl : rows.length = acc.length := by rw [hrows, List.length_map, hkl]
      have HROW := Lib.hid hrows
      have HRW := Lib.hid hrw
      have hT : Told w w2 p ks rows w2.heap.size 0 (.slice none 0 0) := ⟨hx2, hks, ⟨by simp, .inl ⟨rfl, by simp⟩⟩, Nat.le_refl _, hx2.size, fun g hg => by
        rcases hks with h | ⟨g', h1, h2, -⟩
        · exact .inl h
        · rw [h1] at hg
          have := congrArg Addr.block (Option.some.inj hg)
          exact .inr (by have h3 : g' = g := this; omega)⟩
      have HKL := Lib.hid hkl
      have HRL := Lib.hid hrl
      clear hke hke2 hrows hrw hkl hrl hks hx2 xr hx hown hn hrg hp hp2 hN hm
      generalize w2.heap.size = M at *
      generalize acc.length = n at *
      go_wp2_with fail
      go_loopw [5, 27] (fun v i wr => ∃ j : Nat, j ≤ n ∧ i = .int .i64 j ∧ Told w wr p ks rows M j v) (fun _ i _ => n - (intOf i).toNat)
      case atStart => exact ⟨0, Nat.zero_le _, rfl, hT⟩
      case round =>
        clear hT
        obtain ⟨j, hj, rfl, hT⟩ := hrel
        by_cases hjl : j < n
        · have hd : decide ((j : Int) < n) = true := by simp; omega
          have hT0 := hT
          obtain ⟨hx, hks, hown, hMs, hMw, hpM⟩ := hT
          have hkl := HKL.out
          rcases hks with hks | ⟨g, rfl, hg, hcell⟩
          · rw [hks] at hkl; simp at hkl; omega
          have hcj := hcell j (by omega)
          have hkm : ks.getD j 0 ∈ ks := by
            have : j < ks.length := by omega
            simp [List.getD, this]
          obtain ⟨E, hE, hEk, hst⟩ := st_key (hmem _ hkm)
          have hko : I64 (ks.getD j 0) := hEk ▸ h.ok E hE
          have hrj : rows[j]? = some (rowOf (ks.getD j 0) E.a) := by
            have hj' : j < ks.length := by omega
            rw [HROW.out, List.getElem?_map, List.getElem?_eq_getElem hj']
            have : ks.getD j 0 = ks[j] := by simp [List.getD, hj']
            rw [this] at hst ⊢
            simp [hst]
          have HRJ := Lib.hid hrj
          have HST := Lib.hid hst
          have HCE := Lib.hid hcell
          clear hrj hst hcell hkl hkm hEk
          generalize ks.getD j 0 = key at *
          go_wp2_with fail
          refine (grpOfSome_c G o (some d) ents key E.a wr (h.of hx (fun _ _ => id)) hko HST.out (hr E hE)).mono ?_
          rintro e w5 ⟨rfl, x5⟩
          rw [grpOf_val]
          clear hcj hT0
          generalize rowOf key E.a = r at *
          have hown5 := hown.kept (row := none) (w' := w5) ⟨x5.os, x5.tape, x5.output, x5.size, fun k hk hne => x5.block k hk id⟩ (by
            by_cases h : u5.ownBlock = none
            · exact .inl h
            · exact .inr h)
          have hel : ElemG ((w5.alloc (.cells #[.int .i64 r.key, .int .i64 r.cnt, .int .i64 r.sum, .int .i64 r.least, .int .i64 r.most, .bool r.some] 60)).alloc (.cells #[.int .i64 r.key, .int .i64 r.cnt, .int .i64 r.sum, .int .i64 r.least, .int .i64 r.most, .bool r.some] 60)) (w5.heap.size + 1) 0 r := by
            have := ElemG.mk' (w5.alloc (.cells #[.int .i64 r.key, .int .i64 r.cnt, .int .i64 r.sum, .int .i64 r.least, .int .i64 r.most, .bool r.some] 60)) r 60
            rwa [World.size_alloc] at this
          have hj2 : (rows.take j).length = j := by rw [List.length_take]; have := HRL.out; omega
          obtain ⟨v', w', happ, hown', hgr, hloc⟩ := run_appendG ((w5.alloc (.cells #[.int .i64 r.key, .int .i64 r.cnt, .int .i64 r.sum, .int .i64 r.least, .int .i64 r.most, .bool r.some] 60)).alloc (.cells #[.int .i64 r.key, .int .i64 r.cnt, .int .i64 r.sum, .int .i64 r.least, .int .i64 r.most, .bool r.some] 60)) M (w5.heap.size + 1) 1 u5 (rows.take j) r 53 ((hown5.alloc _).alloc _) hel (by omega) (by rw [World.size_alloc, World.size_alloc]; have := x5.size; omega)
          have hT' : Told w w' (some ⟨g, 0, none⟩) ks rows M (j + 1) v' := by
            have hown0 : ∀ k, some k = u5.ownBlock → M ≤ k := fun k hk => by
              rcases hown.2 with ⟨rfl, h0⟩ | ⟨g, cap, cur, rfl, hbase, -⟩
              · cases hk
              · have := Option.some.inj hk
                simp at this; omega
            have hkeep : ∀ k, k < w5.heap.size → k < M → w'.heap[k]? = w5.heap[k]? := fun k hk hM => by
              rw [hgr.block k (by rw [World.size_alloc, World.size_alloc]; omega) (fun e => by have := hown0 k e; omega), heap_alloc_lt (by rw [World.size_alloc]; omega), heap_alloc_lt hk]
            have hsz := hgr.size
            rw [World.size_alloc, World.size_alloc] at hsz
            have hx5 : Ext w w5 := ExtM.trans _ _ _ hx x5
            have hs5 := x5.size
            have hgM : g < M := by
              rcases hpM g rfl with h | h
              · have := HKL.out; rw [h] at this; simp at this; omega
              · exact h
            refine ⟨⟨hgr.os.trans hx5.os, hgr.tape.trans hx5.tape, hgr.output.trans hx5.output, by have := hx5.size; omega, fun k hk _ => (hkeep k (Nat.lt_of_lt_of_le hk hx5.size) (by omega)).trans (hx5.block k hk id)⟩, .inr ⟨g, rfl, by omega, fun i hi => ?_⟩, ?_, by omega, hMw, hpM⟩
            · have q : ∀ o, w'.cell? ⟨g, o, none⟩ = w5.cell? ⟨g, o, none⟩ := fun o => World.cell?_of_block (w := w5) (w' := w') (a := ⟨g, o, none⟩) (hkeep g (by omega) hgM)
              rw [q, x5.cell (p := ⟨g, i, none⟩) hg id]
              exact HCE.out i hi
            · have e1 : rows.take (j + 1) = rows.take j ++ [r] := by
                obtain ⟨hj', hr'⟩ := List.getElem?_eq_some_iff.1 HRJ.out
                rw [List.take_succ_eq_append_getElem hj', hr']
              rw [e1]; exact hown'
          clear hown5 hel hj2 hown' hgr hloc hown hx hpM hMw
          go_wp2_with (at_builtin; refine wpList_append_run happ rfl rfl _ _ rfl rfl rfl ?_; clear happ)
          go_roundw
          case rel => exact ⟨j + 1, by omega, by go_num, hT'⟩
          case measure => simp [intOf]; omega
        · obtain rfl : j = n := by omega
          have hd : decide ((j : Int) < j) = false := by simp
          have hT0 := hT
          obtain ⟨hx, hks, hown, hMs, hMw, hpM⟩ := hT
          clear hT0
          have hrl := HRL.out
          rw [← hrl, List.take_length] at hown
          obtain ⟨p', cap', rfl, hG'⟩ := GrpsOf.own hown rfl
          clear hrl hown
          go_wp2_with fail
          go_ret
          rw [HRW.out]
          exact ⟨p', cap', rfl, hx, hG'⟩
    · have hN := HN.out
      have hown1 : w1.ownsRow (N + 1) 3 1 u3 acc.length (acc.map (Value.int .i64)) := by
        refine hown.kept (row := some N) ⟨x1.os, x1.tape, x1.output, x1.size, fun k hk hne => x1.block k hk (fun e => hne (by rw [e]))⟩ (.inr fun e => ?_)
        rcases hown.2 with ⟨rfl, h0⟩ | ⟨g, cap, cur, rfl, hbase, -⟩
        · cases e
        · simp [Value.ownBlock] at e; omega
      have hx1 : Ext w w1 := ext_ofNI hN hx x1
      have HL := Lib.hid (rangeLeftI hrg)
      have hll : left'.length < left.length := by have := hpm.length_eq; simp at this; omega
      have hRl := hrg1.ltR
      have hDl := hrg1.ltD
      obtain ⟨v', w', happ, hown', hgr, hloc⟩ := run_appendI (w1.alloc (.cells #[.int .i64 p.1] 3)) (N + 1) w1.heap.size 1 u3 acc p.1 52 (hown1.alloc _) (by go_simp) (by omega) (by rw [World.size_alloc]; omega)
      have hvN : ∀ k, k ≤ N → some k ≠ u3.ownBlock := by
        intro k hk e
        rcases hown.2 with ⟨rfl, h0⟩ | ⟨g, cap, cur, rfl, hbase, -⟩
        · cases e
        · simp [Value.ownBlock] at e; omega
      have hkeep : ∀ k, k < w1.heap.size → some k ≠ u3.ownBlock → w'.heap[k]? = w1.heap[k]? := fun k hk hne => (hgr.block k (by rw [World.size_alloc]; omega) hne).trans (heap_alloc_lt hk)
      have hrg' := hrg1.keep (hkeep d hDl (hvN d (by omega))) (hkeep N hRl (hvN N (by omega)))
      have hx' : Ext w w' := ⟨hgr.os.trans hx1.os, hgr.tape.trans hx1.tape, hgr.output.trans hx1.output, Nat.le_trans hx1.size (by have := hgr.size; rw [World.size_alloc] at this; omega), fun k hk _ => (hkeep k (Nat.lt_of_lt_of_le hk hx1.size) (hvN k (by omega))).trans (hx1.block k hk id)⟩
      have hp' : ((acc ++ [p.1]) ++ left'.map (·.1)).Perm (ents.map (·.key)) := by
        refine List.Perm.trans ?_ hp
        rw [List.append_assoc]
        exact List.Perm.append_left acc (by simpa using (hpm.map (·.1)).symm)
      clear hN hown hown1 hx hx1 hgr hloc hkeep hvN hrg x1 z1 hp hpm hal hRl hDl
      go_wp2_with (at_builtin; refine wpList_append_run happ rfl rfl _ _ rfl rfl rfl ?_; clear happ)
      go_roundw
      case rel => exact ⟨left', acc ++ [p.1], hrg', hown', hp', hx'⟩
      case measure => rw [rangeLeftI hrg', HL.out]; exact hll
theorem run_rangeI0 (w : World) : (Instr.range 67 (.map none)).run Tryz.prog w = .ok (.pointer (some ⟨w.heap.size, 0, none⟩)) (w.alloc (.mapIter none 0 #[] 0)) := by
  simp [Instr.range, run_underlying Tryz.underlying67, newObj, Sem.run, Result.andThen]
theorem run_nextI0 (w : World) (ty : TypeId) : (Instr.next (.pointer (some ⟨w.heap.size, 0, none⟩)) false ty).run Tryz.prog (w.alloc (.mapIter none 0 #[] 0)) = .ok (.tuple #[.bool false]) (w.alloc (.mapIter none 0 #[] 0)) := by
  have h : (w.alloc (.mapIter none 0 #[] 0)).heap[w.heap.size]? = some (.mapIter none 0 #[] 0) := heap_alloc_new _ _
  simp only [Instr.next, getObj, Sem.run_bind, Sem.run, h, Result.andThen]
  rfl

set_option maxRecDepth 100000 in
theorem grpAll0_c (G o : Nat) (w : World) (h : GrpIs w G o none []) :
    Calls Tryz.prog 22 #[.pointer (some ⟨G, o, none⟩)] w (GrpsV w []) := by
  have c0 := h.c0
  have f0 := h.f0
  have hrun := run_rangeI0
  have hn := run_nextI0 w
  clear h
  go_enter Tryz.func22, Tryz.ntmps22
  go_wp2_with fail
  refine wp_loop_once ?_
  go_wp2_with fail
  refine (Any.slices_Sort_int_none Tryz.shSortI none 0 _).mono ?_
  rintro e w' ⟨rfl, rfl⟩
  go_wp2_with fail
  refine wp_loop_once ?_
  go_wp2_with fail
  go_ret
  exact ⟨none, 0, rfl, (ExtM.refl _).alloc _, .inl rfl⟩

theorem grpAll (G o : Nat) (D : Option Nat) (ents : List Ent) (w : World) (h : GrpIs w G o D ents) (hl : ents.length < 1000000) (hr : ∀ e ∈ ents, e.a.right.length < 1000000000) :
    Calls Tryz.prog 22 #[.pointer (some ⟨G, o, none⟩)] w (GrpsV w (allG ents)) := by
  cases D with
  | some d => exact grpAll_c G o d ents w h hl hr
  | none =>
    obtain rfl : ents = [] := by
      rcases h.mp with ⟨-, h⟩ | ⟨d, h1, -⟩
      · exact h
      · cases h1
    have : allG [] = [] := List.eq_nil_of_length_eq_zero (by unfold allG; rw [List.length_map, sortI_length]; rfl)
    rw [this]
    exact grpAll0_c G o w h
end Go.Proofs.YtmcgnnmffeojpaaGreatDoor
