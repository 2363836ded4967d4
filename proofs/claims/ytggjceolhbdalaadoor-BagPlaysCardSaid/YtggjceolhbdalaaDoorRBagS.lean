/- The reference's bag: Sorted. -/
import Derived.Test.YtggjceolhbdalaaDoorRBag
namespace Go.Proofs.YtggjceolhbdalaaDoor
open Go.RowKit Go.Plan Go.Sort

theorem run_appendAllO (W : World) (base bs : Nat) (v s : Value) (acc xs : List Out) (ty : TypeId) (hown : W.ownsRow base 45 9 v acc.length (acc.flatMap Out.cells)) (hs : W.ownsRow bs 45 9 s xs.length (xs.flatMap Out.cells)) (hl : acc.length + xs.length < 1000000) (hb : base ≤ W.heap.size) :
    ∃ v' w', (Builtin.append_ #[41, 41] ty #[v, s]).run Tryd.prog W = .ok v' w' ∧ w'.ownsRow base 45 9 v' (acc ++ xs).length ((acc ++ xs).flatMap Out.cells) ∧ ExtR v.ownBlock W w' ∧ (v'.ownBlock = v.ownBlock ∨ ∃ k, v'.ownBlock = some k ∧ W.heap.size ≤ k) :=
  run_appendAllK outCells_len outCells_one 41 _ 64 infoOut' rfl (by decide) Tryd.underlying41 (by decide) W base bs v s acc xs ty hown hs hl hb

theorem lt_ofC {w : World} {b o : Nat} {u : Value} (h : w.cell? ⟨b, o, none⟩ = some u) : b < w.heap.size := cell_lt' h

set_option maxRecDepth 100000 in
set_option maxHeartbeats 4000000 in
theorem bagLess_c (bl blk n cap i j : Nat) (X Y : Out) (w : World) (h3 : w.cell? ⟨bl, 0, none⟩ = some (.slice (some ⟨blk, 0, none⟩) n cap)) (hi : i < n) (hj : j < n) (ei : ElemAt w blk (i * 9) X) (ej : ElemAt w blk (j * 9) Y) :
    Calls Tryd.prog 46 #[.int .i64 i, .int .i64 j, .pointer (some ⟨bl, 0, none⟩)] w fun e w' => e = .returned (.bool (ltOf compareOutI X Y)) ∧ Ext w w' := by
  have l3 := lt_ofC h3
  have l4 := ei.lt
  obtain ⟨e0, e1, e2, e3, e4, e5, e6, e7, e8⟩ := id ei
  obtain ⟨g0, g1, g2, g3, g4, g5, g6, g7, g8⟩ := id ej
  unfold ltOf
  go_enter Tryd.func46, Tryd.ntmps46
  go_wp2_with fail
  refine Plan.begin Plan.Ext 11 rfl (by kernel_rfl) ?_
  refine Plan.left_q 0 (by rfl) (by kernel_rfl) ?_; go_big_quiet_step (fail); refine wpQuiet_nil ?_
  refine Plan.left_q 1 (by rfl) (by kernel_rfl) ?_; go_big_quiet_step (fail); refine wpQuiet_nil ?_
  refine Plan.left_q 2 (by rfl) (by kernel_rfl) ?_; go_big_quiet_step (fail); refine wpQuiet_nil ?_
  refine Plan.left_q 3 (by rfl) (by kernel_rfl) ?_; go_big_quiet_step (fail); refine wpQuiet_nil ?_
  refine Plan.left_q 4 (by rfl) (by kernel_rfl) ?_; go_big_quiet_step (fail); refine wpQuiet_nil ?_
  refine Plan.left_q 5 (by rfl) (by kernel_rfl) ?_; go_big_quiet_step (fail); refine wpQuiet_nil ?_
  refine Plan.left_q 6 (by rfl) (by kernel_rfl) ?_; go_big_quiet_step (fail); refine wpQuiet_nil ?_
  refine Plan.left_q 7 (by rfl) (by kernel_rfl) ?_; go_big_quiet_step (fail); refine wpQuiet_nil ?_
  refine Plan.left_one 8 (by kernel_rfl) (by rfl) (Plan.plain rfl fun K hK => ?_)
  go_wp2_with (fail)
  refine (rcompareOut_c' X Y _).mono ?_
  rintro e w1 ⟨rfl, h1⟩
  have H1 := ExtM.trans _ _ _ (ExtM.refl _).drew h1
  obtain ⟨hc1, hf1, -⟩ := Ext.rules H1
  have hs1_0 : bl < w1.heap.size := by have := H1.size; (try simp at this); omega
  have hs1_1 : blk < w1.heap.size := by have := H1.size; (try simp at this); omega
  go_wp2_with (fail)
  refine hK _ _ h1 ?_
  clear hK K
  refine Plan.left_q 9 (by rfl) (by kernel_rfl) ?_; go_big_quiet_step (fail); refine wpQuiet_nil ?_
  refine Plan.left_q 10 (by rfl) (by kernel_rfl) ?_; go_big_quiet_step (fail); refine wpQuiet_nil ?_
  refine Plan.left_done (by kernel_rfl) ?_
  go_wp2_with fail
  go_ret
  exact ⟨rfl, H1⟩

theorem OutsAt.elem' {w : World} {b : Nat} {d : Array Out} (h : HoldsK Out.cells 9 w b 0 d) (i : Nat) (hi : i < d.size) : ElemAt w b (i * 9) d[i]! := by
  have r : ∀ c, c < 9 → w.cell? ⟨b, i * 9 + c, none⟩ = some ((d[i]!).cells)[c]! := fun c hc => by
    have := (h.cell hi hc).1
    rwa [Nat.zero_add] at this
  exact ⟨r 0 (by omega), r 1 (by omega), r 2 (by omega), r 3 (by omega), r 4 (by omega), r 5 (by omega), r 6 (by omega), r 7 (by omega), r 8 (by omega)⟩

/-- What the sort leaves is what is sorted. -/
theorem sortO_of_sorted {l : List Out} {d' : Array Out} (hp : PermIn 0 l.length l.toArray d') (hs : SortedIn (ltOf compareOutI) 0 l.length d') : d'.toList = sortO l := by
  have hsz : d'.size = l.length := by rw [hp.1]; simp
  have := sorted_unique_holds (lt := ltOf compareOutI) swoOut totOut l.toArray d' (by simpa using hp) (by simpa using hs)
  rw [this]; rfl

set_option maxRecDepth 100000 in
set_option maxHeartbeats 4000000 in
theorem rsorted_c (B : Nat) (v : Value) (l : List Out) (w : World) (h : RB w B v l) (hl : l.length < 1000000) :
    Calls Tryd.prog 27 #[.pointer (some ⟨B, 0, none⟩)] w fun e w' => ∃ p cap, e = .returned (.slice p l.length cap) ∧ Ext w w' ∧ OutsOf w' p (sortO l) := by
  have c0 := h.c0
  have lB := h.lt
  obtain ⟨v1, w1, happ, hown, hgr, hloc⟩ := run_appendAllO (w.alloc (.cells #[] 45)) w.heap.size 0 (.slice (some ⟨w.heap.size, 0, none⟩) 0 0) v [] l 41
    ⟨rfl, .inr ⟨w.heap.size, 0, #[], rfl, Nat.le_refl _, heap_alloc_new _ _, Nat.le_refl _, by unfold maxLen; decide, rfl, rfl⟩⟩
    (own_ext h.row ((ExtM.refl w).alloc _ : Ext w _) (fun _ _ h => h)) (by simp; omega) (by simp)
  rw [List.nil_append] at hown
  have hge : ∀ k, v1.ownBlock = some k → w.heap.size ≤ k := fun k hk => (own_lt hown k hk).1
  have hsome : ∃ k, v1.ownBlock = some k := hloc.elim (fun e => ⟨w.heap.size, e⟩) (fun ⟨k, e, _⟩ => ⟨k, e⟩)
  obtain ⟨p1, c1, rfl, -⟩ := own_slice hown
  obtain ⟨g, rfl⟩ : ∃ g, p1 = some ⟨g, 0, none⟩ := by
    rcases hown.2 with ⟨e, -⟩ | ⟨g, cap, cur, e, -⟩
    · simp only [Value.slice.injEq] at e
      obtain ⟨k, hk⟩ := hsome
      rw [e.1] at hk; cases hk
    · simp only [Value.slice.injEq] at e
      exact ⟨g, e.1⟩
  have hgw : w.heap.size ≤ g := hge g rfl
  have hg1 : g < w1.heap.size := (own_lt hown g rfl).2
  have hx1 : Ext w w1 := fresh_M ((ExtM.refl w).alloc _) hgr (fun k hk e => by have := Option.some.inj e; show False; simp at this; omega)
  have hx2 : Ext w (w1.alloc (.cells #[.slice (some ⟨g, 0, none⟩) l.length c1] 41)) := hx1.alloc _
  have hH : HoldsK Out.cells 9 (w1.alloc (.cells #[.slice (some ⟨g, 0, none⟩) l.length c1] 41)) g 0 l.toArray := OutsAt.of_own (own_ext hown ((ExtM.refl w1).alloc _ : Ext w1 _) (fun _ _ h => h))
  have cL : (w1.alloc (.cells #[.slice (some ⟨g, 0, none⟩) l.length c1] 41)).cell? ⟨w1.heap.size, 0, none⟩ = some (.slice (some ⟨g, 0, none⟩) l.length c1) := by go_simp
  have lL : w1.heap.size < (w1.alloc (.cells #[.slice (some ⟨g, 0, none⟩) l.length c1] 41)).heap.size := by simp
  have eg : ∀ args w, (callFunc 46 args).run Tryd.prog w = .ok (.enter 46 args) w := enters_of Tryd.func46 (by kernel_rfl) rfl
  have hst := stableO_c swoOut 46 #[.pointer (some ⟨w1.heap.size, 0, none⟩)] g c1 l.toArray _ (by simpa using hl) eg hH (by omega) (fun D W i j hD hHD hxW hi hj => by
    have hc := (hxW.cell (p := ⟨w1.heap.size, 0, none⟩) lL (by simp; omega)).trans cL
    have hs : l.toArray.size = l.length := by simp
    exact bagLess_c w1.heap.size g l.length c1 i j _ _ W hc (by omega) (by omega) (OutsAt.elem' hHD i (by omega)) (OutsAt.elem' hHD j (by omega)))
  rw [show l.toArray.size = l.length by simp] at hst
  have HST := Lib.hid hst
  have hgN : ¬ w1.heap.size = g := by omega
  clear hst hH eg hown hge hsome hloc hgr
  go_enter Tryd.func27, Tryd.ntmps27
  go_wp2_with (first
    | (go_at_call 45
       refine HST.out.mono ?_
       rintro e w3 ⟨rfl, d', hp, hso, hH3, hx3⟩
       have cL3 := (hx3.cell (p := ⟨w1.heap.size, 0, none⟩) lL hgN).trans cL
       have H3 := Lib.hid (And.intro hp (And.intro hso hH3))
       clear hp hso hH3)
    | (at_builtin; refine wpList_append_run happ rfl rfl _ _ rfl rfl rfl ?_; clear happ))
  go_ret
  obtain ⟨hp, hso, hH3⟩ := H3.out
  have hds : d'.size = l.length := by rw [hp.1]; simp
  have hd := sortO_of_sorted hp hso
  refine ⟨some ⟨g, 0, none⟩, c1, rfl, fresh_M hx2 hx3 (fun k hk e => by show False; omega), .inr ⟨g, rfl, fun i hi => ?_⟩⟩
  have hi' : i < d'.size := by rw [hds, ← sortO_length l]; exact hi
  have := OutsAt.elem' hH3 i hi'
  rw [getElem!_pos d' i hi'] at this
  have e : (sortO l)[i]'hi = d'[i]'hi' := by simp only [← hd, Array.getElem_toList]
  rw [e]; exact this
end Go.Proofs.YtggjceolhbdalaaDoor
